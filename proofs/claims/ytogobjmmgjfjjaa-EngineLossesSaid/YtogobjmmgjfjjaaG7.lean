/- What is proved: contracts of slices.Reverse at orders and of engine.row.orders. Conditions: the slice is the call's own; the row lies in memory. -/
import Derived.Test.YtogobjmmgjfjjaaG6
import Derived.Deep.LoopGhost
namespace Go.Proofs.Ytogobjmmgjfjjaa
open Go.RowKit

theorem ordA_one (o : LitD) : ∀ u ∈ (ordA o).toList, u.oneCell' = true := by
  intro u hu; simp [ordA] at hu; rcases hu with rfl | rfl <;> rfl
def OrdCells (cs : Array Value) (k : Nat) (o : LitD) : Prop := cs[k * 2]? = some (.int .i64 o.valve) ∧ cs[k * 2 + 1]? = some (.bool o.opn)
/-- Block g holds room for cap orders; the first n are F 0, .. -/
def OrdsAt (w : World) (g cap n : Nat) (F : Nat → LitD) : Prop := ∃ cs, Bk w g 45 cs ∧ cs.size = cap * 2 ∧ ∀ k, k < n → OrdCells cs k (F k)
theorem ordA_cells {w : World} {g k : Nat} {cs : Array Value} {o : LitD} (h : Bk w g 45 cs) (hc : OrdCells cs k o) : ∀ j u, (ordA o)[j]? = some u → w.cell? ⟨g, k * 2 + j, none⟩ = some u := by
  intro j u hj
  rw [h.cell]
  match j, hj with
  | 0, hj => simp [ordA] at hj; subst hj; simpa using hc.1
  | 1, hj => simp [ordA] at hj; subst hj; exact hc.2
  | j + 2, hj => simp [ordA] at hj
theorem ords_set (cs : Array Value) (cap n : Nat) (hz : cs.size = cap * 2) (hn : n ≤ cap) (F : Nat → LitD) (h : ∀ k, k < n → OrdCells cs k (F k)) (i : Nat) (hi : i < n) (o : LitD) :
    ∀ k, k < n → OrdCells (splA cs (i * 2) (ordA o).toList) k (if k = i then o else F k) := by
  intro k hk
  have g := splA_get (ordA o).toList cs (i * 2)
  have hl : (ordA o).toList.length = 2 := rfl
  by_cases e : k = i
  · subst e
    rw [if_pos rfl]
    constructor
    · rw [g _ (by rw [hl]; omega), if_pos (by rw [hl]; omega), Nat.sub_self]; rfl
    · rw [g _ (by rw [hl]; omega), if_pos (by rw [hl]; omega), Nat.add_sub_cancel_left]; rfl
  · rw [if_neg e]
    constructor
    · rw [g _ (by rw [hl]; omega), if_neg (by rw [hl]; omega)]; exact (h k hk).1
    · rw [g _ (by rw [hl]; omega), if_neg (by rw [hl]; omega)]; exact (h k hk).2

def revF (n k : Nat) (F : Nat → LitD) : Nat → LitD := fun m => if m < k ∨ n ≤ m + k then F (n - 1 - m) else F m
theorem revF_step (n i j : Nat) (F : Nat → LitD) (hi : i + 1 + i < n) (hj : (n : Int) - 1 - i = j) : (fun m => if m = i then revF n i F j else if m = j then revF n i F i else revF n i F m) = revF n (i + 1) F := by
  obtain rfl : j = n - 1 - i := by omega
  funext m
  unfold revF
  by_cases e1 : m = i
  · subst e1; rw [if_pos rfl, if_neg (by omega), if_pos (by omega)]
  · rw [if_neg e1]
    by_cases e2 : m = n - 1 - i
    · subst e2; rw [if_pos rfl, if_neg (by omega), if_pos (by omega)]; congr 1; omega
    · rw [if_neg e2]
      by_cases e3 : m < i ∨ n ≤ m + i
      · rw [if_pos e3, if_pos (by omega)]
      · rw [if_neg e3, if_neg (by omega)]

set_option maxRecDepth 100000 in
set_option maxHeartbeats 2000000 in
theorem reverse_any (w : World) (g cap n : Nat) (F : Nat → LitD) (h : OrdsAt w g cap n F) (hnc : n ≤ cap) (hn : n ≤ 100000) :
    Calls Try.prog 63 #[.slice (some ⟨g, 0, none⟩) n cap] w
      fun e w' => e = .returned (.tuple #[]) ∧ OrdsAt w' g cap n (fun m => F (n - 1 - m)) ∧ Only g w w' := by
  have H0 := Lib.hid h; clear h
  go_enter Try.func63, Try.ntmps63
  go_wp2_with fail
  go_loopw [2, 3] (fun a b wr => ∃ i : Nat, i ≤ n ∧ a = .int .i64 i ∧ b = .int .i64 ((n : Int) - 1 - i) ∧ Hid (OrdsAt wr g cap n (revF n i F) ∧ Only g w wr)) (fun a _ _ => n - (intOf a).toNat)
  case atStart => exact ⟨0, by omega, rfl, by simp, Lib.hid ⟨by obtain ⟨cs, h1, h2, h3⟩ := H0.out; exact ⟨cs, h1, h2, fun k hk => by unfold revF; rw [if_neg (by omega)]; exact h3 k hk⟩, Only.refl _ _⟩⟩
  case round =>
    obtain ⟨i, hi, rfl, rfl, hO⟩ := hrel
    by_cases hlt : i + 1 + i < n
    · obtain ⟨j, hj⟩ : ∃ j : Nat, (n : Int) - 1 - i = j := ⟨n - 1 - i, by omega⟩
      have hij : (i : Int) < (j : Int) := by omega
      have hjn : (j : Int) < (n : Int) := by omega
      have h0i : (0 : Int) ≤ (i : Int) := by omega
      have hin : (i : Int) < (n : Int) := by omega
      have h0j : (0 : Int) ≤ (j : Int) := by omega
      have hne' : j ≠ i := by omega
      rw [hj]
      have HS := Lib.hid (revF_step n i j F hlt hj)
      have HJ := Lib.hid hj; clear hj
      obtain ⟨Fi, hFi⟩ : ∃ Fi, Fi = revF n i F := ⟨_, rfl⟩
      rw [← hFi] at hO HS
      clear hFi
      go_wp2_with fail
      have hO0 := hO.out.1
      refine wp_region_stepsJ (by kernel_rfl) (by kernel_rfl) (fun dn _ w1 => OrdsAt w1 g cap n (fun m => if dn 13 && m == i then Fi j else if dn 15 && m == j then Fi i else Fi m) ∧ Only g wr w1) (fun _ _ _ => True)
        (fun ix u _ _ => match ix with
          | 0 => u = .slice (some ⟨g, 0, none⟩) n cap
          | 1 => u = .int .i64 i
          | 2 => u = .slice (some ⟨g, 0, none⟩) n cap
          | 3 => u = .int .i64 j
          | 4 => u = .slice (some ⟨g, 0, none⟩) n cap
          | 5 => u = .int .i64 j
          | 6 => u = .pointer (some ⟨g, j * 2, none⟩)
          | 7 => u = .agg (ordA (Fi j))
          | 8 => u = .slice (some ⟨g, 0, none⟩) n cap
          | 9 => u = .int .i64 i
          | 10 => u = .pointer (some ⟨g, i * 2, none⟩)
          | 11 => u = .agg (ordA (Fi i))
          | 12 => u = .pointer (some ⟨g, i * 2, none⟩)
          | 13 => True
          | 14 => u = .pointer (some ⟨g, j * 2, none⟩)
          | _ => True) (fun _ => ⟨by obtain ⟨cs, h1, h2, h3⟩ := hO0; exact ⟨cs, h1, h2, fun k hk => by simpa using h3 k hk⟩, (Only.refl _ _).drewN 1⟩) (fun _ _ _ _ _ _ _ _ h _ => h) ?_ ?_
      · refine ⟨?_, ?_, ?_, ?_, ?_, ?_, ?_, ?_, ?_, ?_, ?_, ?_, ?_, ?_, ?_, ?_, trivial⟩
        · intro a w1 vs K dn Hd Hb HJ HK HD HN k
          have e0 := HK 0 (by decide)
          go_simp; exact k _ _ (by simp) HJ trivial rfl
        · intro a w1 vs K dn Hd Hb HJ HK HD HN k
          have e2 := HK 2 (by decide)
          go_simp; exact k _ _ (by simp) HJ trivial rfl
        · intro a w1 vs K dn Hd Hb HJ HK HD HN k
          have e0 := HK 0 (by decide)
          go_simp; exact k _ _ (by simp) HJ trivial rfl
        · intro a w1 vs K dn Hd Hb HJ HK HD HN k
          have e3 := HK 3 (by decide)
          go_simp; exact k _ _ (by simp) HJ trivial rfl
        · intro a w1 vs K dn Hd Hb HJ HK HD HN k
          have e0 := HK 0 (by decide)
          go_simp; exact k _ _ (by simp) HJ trivial rfl
        · intro a w1 vs K dn Hd Hb HJ HK HD HN k
          have e3 := HK 3 (by decide)
          go_simp; exact k _ _ (by simp) HJ trivial rfl
        · intro a w1 vs K dn Hd Hb HJ HK HD HN k
          have e18 := (HD 4 _ 18 rfl rfl rfl).1.trans (HD 4 _ 18 rfl rfl rfl).2
          have e19 := (HD 5 _ 19 rfl rfl rfl).1.trans (HD 5 _ 19 rfl rfl rfl).2
          go_simp; exact k _ _ (by simp) HJ trivial rfl
        · intro a w1 vs K dn Hd Hb HJ HK HD HN k
          have e20 := (HD 6 _ 20 rfl rfl rfl).1.trans (HD 6 _ 20 rfl rfl rfl).2
          have d13 : dn 13 = false := by cases hq : dn 13 with | false => rfl | true => exact absurd (Hd 13 hq).2 (by decide)
          have d15 : dn 15 = false := by cases hq : dn 15 with | false => rfl | true => exact absurd (Hd 15 hq).2 (by decide)
          obtain ⟨cs, q1, q2, q3⟩ := HJ.1
          have q4 := q3 j (by omega)
          rw [d13, d15] at q4
          simp only [Bool.false_and, Bool.false_eq_true, if_false] at q4
          exact wpo_loadS 45 (.tmp 20) rfl g (j * 2) (by simpa [Act.eval] using e20) (ordA (Fi j)) _ (ordA_cells q1 q4) und_order rfl info_order (k _ _ (by simp) HJ trivial rfl)
        · intro a w1 vs K dn Hd Hb HJ HK HD HN k
          have e0 := HK 0 (by decide)
          go_simp; exact k _ _ (by simp) HJ trivial rfl
        · intro a w1 vs K dn Hd Hb HJ HK HD HN k
          have e2 := HK 2 (by decide)
          go_simp; exact k _ _ (by simp) HJ trivial rfl
        · intro a w1 vs K dn Hd Hb HJ HK HD HN k
          have e22 := (HD 8 _ 22 rfl rfl rfl).1.trans (HD 8 _ 22 rfl rfl rfl).2
          have e23 := (HD 9 _ 23 rfl rfl rfl).1.trans (HD 9 _ 23 rfl rfl rfl).2
          go_simp; exact k _ _ (by simp) HJ trivial rfl
        · intro a w1 vs K dn Hd Hb HJ HK HD HN k
          have e24 := (HD 10 _ 24 rfl rfl rfl).1.trans (HD 10 _ 24 rfl rfl rfl).2
          have d13 : dn 13 = false := by cases hq : dn 13 with | false => rfl | true => exact absurd (Hd 13 hq).2 (by decide)
          have d15 : dn 15 = false := by cases hq : dn 15 with | false => rfl | true => exact absurd (Hd 15 hq).2 (by decide)
          obtain ⟨cs, q1, q2, q3⟩ := HJ.1
          have q4 := q3 i (by omega)
          rw [d13, d15] at q4
          simp only [Bool.false_and, Bool.false_eq_true, if_false] at q4
          exact wpo_loadS 45 (.tmp 24) rfl g (i * 2) (by simpa [Act.eval] using e24) (ordA (Fi i)) _ (ordA_cells q1 q4) und_order rfl info_order (k _ _ (by simp) HJ trivial rfl)
        · intro a w1 vs K dn Hd Hb HJ HK HD HN k
          have e14 := (HD 0 _ 14 rfl rfl rfl).1.trans (HD 0 _ 14 rfl rfl rfl).2
          have e15 := (HD 1 _ 15 rfl rfl rfl).1.trans (HD 1 _ 15 rfl rfl rfl).2
          go_simp; exact k _ _ (by simp) HJ trivial rfl
        · intro a w1 vs K dn Hd Hb HJ HK HD HN k
          have e26 := (HD 12 _ 26 rfl rfl rfl).1.trans (HD 12 _ 26 rfl rfl rfl).2
          have e21 := (HD 7 _ 21 rfl rfl rfl).1.trans (HD 7 _ 21 rfl rfl rfl).2
          obtain ⟨cs, q1, q2, q3⟩ := HJ.1
          refine wpo_storeS 45 (.tmp 26) (.tmp 21) rfl rfl g (i * 2) (by simpa [Act.eval] using e26) (ordA (Fi j)) (by simpa [Act.eval] using e21) _ cs q1 (by show i * 2 + 2 ≤ cs.size; omega) (ordA_one _) info_order ?_
          intro w2 hk2 ho2
          refine k _ _ (by simp) ⟨⟨_, hk2, by rw [splA_size]; exact q2, ?_⟩, HJ.2.trans ho2⟩ trivial trivial
          intro m hm
          have q5 := ords_set cs cap n q2 hnc _ q3 i (by omega) (Fi j) m hm
          refine Eq.mp (congrArg (OrdCells _ m) ?_) q5
          by_cases e : m = i <;> simp [updB, e]
        · intro a w1 vs K dn Hd Hb HJ HK HD HN k
          have e16 := (HD 2 _ 16 rfl rfl rfl).1.trans (HD 2 _ 16 rfl rfl rfl).2
          have e17 := (HD 3 _ 17 rfl rfl rfl).1.trans (HD 3 _ 17 rfl rfl rfl).2
          go_simp; exact k _ _ (by simp) HJ trivial rfl
        · intro a w1 vs K dn Hd Hb HJ HK HD HN k
          have e27 := (HD 14 _ 27 rfl rfl rfl).1.trans (HD 14 _ 27 rfl rfl rfl).2
          have e25 := (HD 11 _ 25 rfl rfl rfl).1.trans (HD 11 _ 25 rfl rfl rfl).2
          obtain ⟨cs, q1, q2, q3⟩ := HJ.1
          refine wpo_storeS 45 (.tmp 27) (.tmp 25) rfl rfl g (j * 2) (by simpa [Act.eval] using e27) (ordA (Fi i)) (by simpa [Act.eval] using e25) _ cs q1 (by show j * 2 + 2 ≤ cs.size; omega) (ordA_one _) info_order ?_
          intro w2 hk2 ho2
          refine k _ _ (by simp) ⟨⟨_, hk2, by rw [splA_size]; exact q2, ?_⟩, HJ.2.trans ho2⟩ trivial trivial
          intro m hm
          have q5 := ords_set cs cap n q2 hnc _ q3 j (by omega) (Fi i) m hm
          refine Eq.mp (congrArg (OrdCells _ m) ?_) q5
          by_cases e : m = j <;> simp [updB, e, hne']
      intro vs dn w1 hall hJ hrr
      have d13 := hall 13 (by decide)
      have d15 := hall 15 (by decide)
      rw [d13, d15] at hJ
      simp only [Bool.true_and, beq_iff_eq] at hJ
      rw [HS.out] at hJ
      have HO := Lib.hid hJ
      have HO2 := hO
      clear hJ hrr hall d13 d15 hO hO0
      simp only [putAll, Act.put]
      go_wp2_with fail
      go_roundw
      case rel => exact ⟨i + 1, by omega, by go_num, congrArg (Value.int .i64) (by have := HJ.out; omega), Lib.hid ⟨HO.out.1, HO2.out.2.trans HO.out.2⟩⟩
      case measure => simp [intOf]; omega
    · have hge : ¬ (i : Int) < (n : Int) - 1 - i := by omega
      have hge' : (n : Int) - 1 - i ≤ (i : Int) := by omega
      have HR := Lib.hid (show ∀ m, m < n → revF n i F m = F (n - 1 - m) by
        intro m hm
        unfold revF
        by_cases e : m < i ∨ n ≤ m + i
        · rw [if_pos e]
        · rw [if_neg e]; congr 1; omega)
      go_wp2_with fail
      go_end0
      obtain ⟨⟨cs, h1, h2, h3⟩, h4⟩ := hO.out
      exact ⟨rfl, ⟨cs, h1, h2, fun m hm => by have h5 := h3 m hm; rw [HR.out m hm] at h5; exact h5⟩, h4⟩
set_option maxRecDepth 100000 in
set_option maxHeartbeats 1000000 in
theorem reverseNil_any (w : World) :
    Calls Try.prog 63 #[.slice none 0 0] w fun e w' => e = .returned (.tuple #[]) ∧ w = w' := by
  go_enter Try.func63, Try.ntmps63
  go_wp2_with fail
  refine wp_loop_rounds 1 ?_
  rw [rounds_succ]
  go_wp2_with fail
  go_end0
  exact ⟨rfl, rfl⟩

def ordL (l : List LitD) : List Value := l.flatMap fun o => [.int .i64 o.valve, .bool o.opn]
theorem ordL_len (l : List LitD) : (ordL l).length = l.length * 2 := by
  induction l with
  | nil => rfl
  | cons o l ih => simp only [ordL, List.flatMap_cons, List.length_append, List.length_cons, List.length_nil] at ih ⊢; omega
theorem ordL_get (l : List LitD) : ∀ k, k < l.length → (ordL l)[k * 2]? = some (.int .i64 (l.getD k lit0).valve) ∧ (ordL l)[k * 2 + 1]? = some (.bool (l.getD k lit0).opn) := by
  induction l with
  | nil => intro k hk; simp at hk
  | cons o l ih =>
    intro k hk
    cases k with
    | zero => exact ⟨rfl, rfl⟩
    | succ k =>
      have := ih k (by simpa using hk)
      have e : ordL (o :: l) = [.int .i64 o.valve, .bool o.opn] ++ ordL l := rfl
      rw [e]
      rw [show (k + 1) * 2 = 2 + k * 2 from by omega]
      refine ⟨?_, ?_⟩
      · rw [List.getElem?_append_right (by simp)]; simpa using this.1
      · rw [List.getElem?_append_right (by simp; omega), show 2 + k * 2 + 1 - [Value.int .i64 o.valve, Value.bool o.opn].length = k * 2 + 1 from by simp; omega]; simpa using this.2
theorem own_ords {w : World} {B g cap : Nat} {l : List LitD} {v : Value} (h : w.ownsRow B 45 2 v l.length (ordL l)) (hv : v = .slice (some ⟨g, 0, none⟩) l.length cap) : OrdsAt w g cap l.length (fun k => l.getD k lit0) ∧ l.length ≤ cap ∧ B ≤ g := by
  rcases h.2 with ⟨rfl, _⟩ | ⟨g', cap', cur, e, hB, hg, hn, _, hs, ht⟩
  · simp at hv
  · rw [hv] at e
    simp only [Value.slice.injEq, Option.some.injEq, Addr.mk.injEq, and_true, true_and] at e
    obtain ⟨rfl, rfl⟩ := e
    refine ⟨⟨cur, hg, hs, fun k hk => ?_⟩, hn, hB⟩
    have := ordL_get l k hk
    rw [← ht, List.getElem?_take, List.getElem?_take, if_pos (by omega), if_pos (by omega)] at this
    simpa [OrdCells] using this
/-- The orders l as a slice of new memory. -/
def OrdSl (w : World) (B : Nat) (v : Value) (l : List LitD) : Prop := (l = [] ∧ v = .slice none 0 0) ∨ ∃ g cap, v = .slice (some ⟨g, 0, none⟩) l.length cap ∧ OrdsAt w g cap l.length (fun k => l.getD k lit0) ∧ B ≤ g ∧ l.length ≤ cap
def Chain (w : World) (R : RowC) (k : Nat) (acc : List LitD) (rv : Value) : Prop := (rv = .pointer none ∧ acc = R.back) ∨ ∃ r b, rv = .pointer (some ⟨b, 0, none⟩) ∧ RowIn w r b ∧ acc ++ r.back = R.back ∧ r.depth + 1 ≤ k
theorem info_ordC : (Try.prog.info? 45).map (fun i => (i.zero, i.size, i.bytes)) = some (some (.agg #[.int .i64 0, .bool false]), 2, 16) := by kernel_rfl

set_option maxRecDepth 100000 in
set_option maxHeartbeats 2000000 in
theorem orders_any (w : World) (R : RowC) (b0 : Nat) (h : RowIn w R b0) (hd : R.depth ≤ 50000) :
    Calls Try.prog 32 #[.pointer (some ⟨b0, 0, none⟩)] w fun e w' => ∃ v, e = .returned v ∧ OrdSl w' w.heap.size v R.back.reverse ∧ Below w.heap.size w w' := by
  obtain ⟨i0, hi, hz0, hz1, hz2⟩ := info_parts info_ordC
  have H0 := Lib.hid h; clear h
  have hdl := R.back_le
  go_enter Try.func32, Try.ntmps32
  go_wp2_with fail
  go_loopg [0, 3] (R.depth + 1) (fun k rv lv wr => ∃ acc : List LitD, wr.ownsRow w.heap.size 45 2 lv acc.length (ordL acc) ∧ Below w.heap.size w wr ∧ Hid (Chain w R k acc rv))
  case atStart => exact ⟨[], World.ownsRow_nil _ _ _ _, Below.refl _ _, Lib.hid (.inr ⟨R, b0, rfl, H0.out, rfl, Nat.le_refl _⟩)⟩
  case round =>
    obtain ⟨acc, hown, hb, hC⟩ := hrel
    rcases hC.out with ⟨rfl, hacc⟩ | ⟨r, b, rfl, hr, hacc, hk⟩
    · have HA := Lib.hid hacc
      have HO := Lib.hid hown
      have hl : acc.length ≤ 100000 := by rw [hacc]; omega
      rcases hown.2 with ⟨rfl, hn⟩ | ⟨g, cap, cur, hv, hg, hrest⟩
      · have HN : Hid (acc = []) := Lib.hid (List.eq_nil_of_length_eq_zero hn)
        clear hown hacc hn hC hl
        go_wp2_with fail
        refine (reverseNil_any _).mono ?_
        rintro e w' ⟨rfl, rfl⟩
        go_wp2_with fail
        go_ret
        exact ⟨_, rfl, .inl ⟨by rw [← HA.out, HN.out]; rfl, rfl⟩, hb⟩
      · obtain ⟨q1, q2, q3⟩ := own_ords hown hv
        subst hv
        have HR := Lib.hid (reverse_any wr g cap acc.length _ q1 q2 hl)
        have H2 := Lib.hid q2
        have H3 := Lib.hid q3
        clear hown hacc hC hl hrest hg q1 q2 q3
        go_wp2_with fail
        refine HR.out.mono ?_
        rintro e w' ⟨rfl, hO, hW⟩
        have HO' := Lib.hid hO
        have hb' : Below w.heap.size w w' := hb.trans (hW.below H3.out)
        clear hO hW
        go_wp2_with fail
        go_ret
        refine ⟨.slice (some ⟨g, 0, none⟩) acc.length cap, rfl, .inr ⟨g, cap, by rw [← HA.out, List.length_reverse], ?_, H3.out, by rw [← HA.out, List.length_reverse]; exact H2.out⟩, hb'⟩
        obtain ⟨cs, r1, r2, r3⟩ := HO'.out
        rw [← HA.out, List.length_reverse]
        refine ⟨cs, r1, r2, fun k hk => ?_⟩
        have := r3 k hk
        show OrdCells cs k (acc.reverse.getD k lit0)
        rw [show acc.reverse.getD k lit0 = acc.getD (acc.length - 1 - k) lit0 from by rw [List.getD_eq_getElem?_getD, List.getElem?_reverse hk, ← List.getD_eq_getElem?_getD]]
        exact this
    · match r, hr with
      | .root s, hr =>
        have hbk : Bk w b 96 (rowA s (.pointer none) (.pointer none)) := hr
        have c24 : wr.cell? ⟨b, 24, none⟩ = some (.pointer none) := (hb.cell (p := ⟨b, 24, none⟩) hbk.lt).trans (hbk.cell 24)
        have c25 : wr.cell? ⟨b, 25, none⟩ = some (.pointer none) := (hb.cell (p := ⟨b, 25, none⟩) hbk.lt).trans (hbk.cell 25)
        have HA := Lib.hid hacc
        have HK := Lib.hid hk
        clear hacc hbk hr hC hk
        go_wp2_with fail
        go_roundg 0
        case rel => exact ⟨acc, hown, hb, Lib.hid (.inl ⟨rfl, by simpa [RowC.back] using HA.out⟩)⟩
        case measure => have := HK.out; omega
      | .step s r' none, hr =>
        obtain ⟨b', hr', hbk⟩ := hr
        have c24 : wr.cell? ⟨b, 24, none⟩ = some (.pointer (some ⟨b', 0, none⟩)) := (hb.cell (p := ⟨b, 24, none⟩) hbk.lt).trans (hbk.cell 24)
        have c25 : wr.cell? ⟨b, 25, none⟩ = some (.pointer none) := (hb.cell (p := ⟨b, 25, none⟩) hbk.lt).trans (hbk.cell 25)
        have HA := Lib.hid hacc
        have HK := Lib.hid hk
        have HR := Lib.hid hr'
        clear hacc hbk hr' hC hk
        go_wp2_with fail
        go_roundg (r'.depth + 1)
        case rel => exact ⟨acc, hown, hb, Lib.hid (.inr ⟨r', b', rfl, HR.out, HA.out, Nat.le_refl _⟩)⟩
        case measure => have := HK.out; simp only [RowC.depth] at this; omega
      | .step s r' (some o), hr =>
        obtain ⟨b', ob, hr', hob, hbk⟩ := hr
        have c24 : wr.cell? ⟨b, 24, none⟩ = some (.pointer (some ⟨b', 0, none⟩)) := (hb.cell (p := ⟨b, 24, none⟩) hbk.lt).trans (hbk.cell 24)
        have c25 : wr.cell? ⟨b, 25, none⟩ = some (.pointer (some ⟨ob, 0, none⟩)) := (hb.cell (p := ⟨b, 25, none⟩) hbk.lt).trans (hbk.cell 25)
        have o0 : wr.cell? ⟨ob, 0, none⟩ = some (.int .i64 o.valve) := (hb.cell (p := ⟨ob, 0, none⟩) hob.lt).trans (hob.cell 0)
        have o1 : wr.cell? ⟨ob, 1, none⟩ = some (.bool o.opn) := (hb.cell (p := ⟨ob, 1, none⟩) hob.lt).trans (hob.cell 1)
        have hl : acc.length ≤ 100000 := by
          have := congrArg List.length hacc
          simp only [List.length_append] at this
          omega
        have HA := Lib.hid hacc
        have HK := Lib.hid hk
        have HR := Lib.hid hr'
        have HBK := Lib.hid hbk.lt
        have hsz := hb.size
        clear hacc hbk hr' hC hk hob
        go_wp2_with (first | (at_builtin; refine wpList_append_own _ rfl _ _ 40 rfl w.heap.size 45 i0 (.agg #[.int .i64 0, .bool false]) 2 16 Try.underlying40 hi hz0 hz1 hz2 rfl (by decide) _ _ _ rfl (hown.alloc _) ⟨wr.heap.size, 0, none⟩ 1 1 [.int .i64 o.valve, .bool o.opn] rfl rfl ?c1 ?c2 ?c3 ?c4 ?c5 ?_))
        case c1 => intro j u hj; match j, hj with | 0, hj => simp at hj; subst hj; simp [Addr.add] | 1, hj => simp at hj; subst hj; simp [Addr.add]
        case c2 => intro u hu; simp at hu; rcases hu with rfl | rfl <;> rfl
        case c3 => unfold maxLen; omega
        case c4 => omega
        case c5 => simp; omega
        intro v' w1 hown' hgrow _
        have hs1 := hgrow.size
        simp only [World.size_alloc] at hs1
        have hbw : Below w.heap.size wr w1 := ((Below.refl _ wr).alloc (by omega) _).grown hgrow (by simp; omega) (fun g hg => (hown.lt g hg).1)
        have d24 : w1.cell? ⟨b, 24, none⟩ = some (.pointer (some ⟨b', 0, none⟩)) := (hbw.cell (p := ⟨b, 24, none⟩) HBK.out).trans c24
        have hown2 : w1.ownsRow w.heap.size 45 2 v' (acc ++ [o]).length (ordL (acc ++ [o])) := by
          rw [List.length_append, show ordL (acc ++ [o]) = ordL acc ++ [.int .i64 o.valve, .bool o.opn] from by simp [ordL]]; exact hown'
        have HW := Lib.hid hown2
        have hb1 := hb.trans hbw
        clear hown hown' hown2 hgrow hbw
        go_wp2_with fail
        go_roundg (r'.depth + 1)
        case rel => exact ⟨acc ++ [o], HW.out, hb1, Lib.hid (.inr ⟨r', b', rfl, HR.out, by rw [List.append_assoc]; exact HA.out, Nat.le_refl _⟩)⟩
        case measure => have := HK.out; simp only [RowC.depth] at this; omega
end Go.Proofs.Ytogobjmmgjfjjaa
