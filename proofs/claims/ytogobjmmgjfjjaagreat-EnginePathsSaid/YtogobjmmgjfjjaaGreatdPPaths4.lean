/- What is proved: the texts G7 G8 G9 G10 H1 H2 H3 L1 K1 K2, one behind the other; each says at its head what it proves, and under which conditions. -/
import Derived.Deep.LoopGhost
import Derived.Laws.StructEq
import Derived.Deep.DeepCutAuto
import Derived.Deep.CutBlock
import Derived.Test.YtogobjmmgjfjjaaGreatdPPaths3
/- What is proved: contracts of slices.Reverse at orders and of engine.row.orders. Conditions: the slice is the call's own; the row lies in memory. -/
namespace Go.Proofs.YtogobjmmgjfjjaaGreat
open Go.RowKit

theorem ordA_one (o : LitD) : ∀ u ∈ (ordA o).toList, u.oneCell' = true := by
  intro u hu; simp [ordA] at hu; rcases hu with rfl | rfl <;> rfl
def OrdCells (cs : Array Value) (k : Nat) (o : LitD) : Prop := cs[k * 2]? = some (.int .i64 o.valve) ∧ cs[k * 2 + 1]? = some (.bool o.opn)
/-- Block g holds room for cap orders; the first n are F 0, .. -/
def OrdsAt (w : World) (g cap n : Nat) (F : Nat → LitD) : Prop := ∃ cs, Bk w g 38 cs ∧ cs.size = cap * 2 ∧ ∀ k, k < n → OrdCells cs k (F k)
theorem ordA_cells {w : World} {g k : Nat} {cs : Array Value} {o : LitD} (h : Bk w g 38 cs) (hc : OrdCells cs k o) : ∀ j u, (ordA o)[j]? = some u → w.cell? ⟨g, k * 2 + j, none⟩ = some u := by
  intro j u hj
  rw [h.cell]
  match j, hj with
  | 0, hj => simp [ordA] at hj; subst hj; simpa using hc.1
  | 1, hj => simp [ordA] at hj; subst hj; exact hc.2
  | j + 2, hj => simp [ordA] at hj
theorem ords_set (cs : Array Value) (cap n : Nat) (hz : cs.size = cap * 2) (hn : n ≤ cap) (F : Nat → LitD) (h : ∀ k, k < n → OrdCells cs k (F k)) (i : Nat) (hi : i < n) (o : LitD) :
    ∀ k, k < n → OrdCells (splA cs (i * 2) (ordA o).toList) k (if k = i then o else F k) := by
  intro k hk
  have g := splA_get (ordA o).toList cs (i * 2)
  have hl : (ordA o).toList.length = 2 := rfl
  by_cases e : k = i
  · subst e
    rw [if_pos rfl]
    constructor
    · rw [g _ (by rw [hl]; omega), if_pos (by rw [hl]; omega), Nat.sub_self]; rfl
    · rw [g _ (by rw [hl]; omega), if_pos (by rw [hl]; omega), Nat.add_sub_cancel_left]; rfl
  · rw [if_neg e]
    constructor
    · rw [g _ (by rw [hl]; omega), if_neg (by rw [hl]; omega)]; exact (h k hk).1
    · rw [g _ (by rw [hl]; omega), if_neg (by rw [hl]; omega)]; exact (h k hk).2

def revF (n k : Nat) (F : Nat → LitD) : Nat → LitD := fun m => if m < k ∨ n ≤ m + k then F (n - 1 - m) else F m
theorem revF_step (n i j : Nat) (F : Nat → LitD) (hi : i + 1 + i < n) (hj : (n : Int) - 1 - i = j) : (fun m => if m = i then revF n i F j else if m = j then revF n i F i else revF n i F m) = revF n (i + 1) F := by
  obtain rfl : j = n - 1 - i := by omega
  funext m
  unfold revF
  by_cases e1 : m = i
  · subst e1; rw [if_pos rfl, if_neg (by omega), if_pos (by omega)]
  · rw [if_neg e1]
    by_cases e2 : m = n - 1 - i
    · subst e2; rw [if_pos rfl, if_neg (by omega), if_pos (by omega)]; congr 1; omega
    · rw [if_neg e2]
      by_cases e3 : m < i ∨ n ≤ m + i
      · rw [if_pos e3, if_pos (by omega)]
      · rw [if_neg e3, if_neg (by omega)]

set_option maxRecDepth 100000 in
set_option maxHeartbeats 2000000 in
theorem reverse_any (w : World) (g cap n : Nat) (F : Nat → LitD) (h : OrdsAt w g cap n F) (hnc : n ≤ cap) (hn : n ≤ 100000) :
    Calls Tryz.prog 117 #[.slice (some ⟨g, 0, none⟩) n cap] w
      fun e w' => e = .returned (.tuple #[]) ∧ OrdsAt w' g cap n (fun m => F (n - 1 - m)) ∧ Only g w w' := by
  have H0 := Lib.hid h; clear h
  go_enter Tryz.func117, Tryz.ntmps117
  go_wp2_with fail
  go_loopw [2, 3] (fun a b wr => ∃ i : Nat, i ≤ n ∧ a = .int .i64 i ∧ b = .int .i64 ((n : Int) - 1 - i) ∧ Hid (OrdsAt wr g cap n (revF n i F) ∧ Only g w wr)) (fun a _ _ => n - (intOf a).toNat)
  case atStart => exact ⟨0, by omega, rfl, by simp, Lib.hid ⟨by obtain ⟨cs, h1, h2, h3⟩ := H0.out; exact ⟨cs, h1, h2, fun k hk => by unfold revF; rw [if_neg (by omega)]; exact h3 k hk⟩, Only.refl _ _⟩⟩
  case round =>
    obtain ⟨i, hi, rfl, rfl, hO⟩ := hrel
    by_cases hlt : i + 1 + i < n
    · obtain ⟨j, hj⟩ : ∃ j : Nat, (n : Int) - 1 - i = j := ⟨n - 1 - i, by omega⟩
      have hij : (i : Int) < (j : Int) := by omega
      have hjn : (j : Int) < (n : Int) := by omega
      have h0i : (0 : Int) ≤ (i : Int) := by omega
      have hin : (i : Int) < (n : Int) := by omega
      have h0j : (0 : Int) ≤ (j : Int) := by omega
      have hne' : j ≠ i := by omega
      rw [hj]
      have HS := Lib.hid (revF_step n i j F hlt hj)
      have HJ := Lib.hid hj; clear hj
      obtain ⟨Fi, hFi⟩ : ∃ Fi, Fi = revF n i F := ⟨_, rfl⟩
      rw [← hFi] at hO HS
      clear hFi
      go_wp2_with fail
      have hO0 := hO.out.1
      refine wp_region_stepsJ (by kernel_rfl) (by kernel_rfl) (fun dn _ w1 => OrdsAt w1 g cap n (fun m => if dn 13 && m == i then Fi j else if dn 15 && m == j then Fi i else Fi m) ∧ Only g wr w1) (fun _ _ _ => True)
        (fun ix u _ _ => match ix with
          | 0 => u = .slice (some ⟨g, 0, none⟩) n cap
          | 1 => u = .int .i64 i
          | 2 => u = .slice (some ⟨g, 0, none⟩) n cap
          | 3 => u = .int .i64 j
          | 4 => u = .slice (some ⟨g, 0, none⟩) n cap
          | 5 => u = .int .i64 j
          | 6 => u = .pointer (some ⟨g, j * 2, none⟩)
          | 7 => u = .agg (ordA (Fi j))
          | 8 => u = .slice (some ⟨g, 0, none⟩) n cap
          | 9 => u = .int .i64 i
          | 10 => u = .pointer (some ⟨g, i * 2, none⟩)
          | 11 => u = .agg (ordA (Fi i))
          | 12 => u = .pointer (some ⟨g, i * 2, none⟩)
          | 13 => True
          | 14 => u = .pointer (some ⟨g, j * 2, none⟩)
          | _ => True) (fun _ => ⟨by obtain ⟨cs, h1, h2, h3⟩ := hO0; exact ⟨cs, h1, h2, fun k hk => by simpa using h3 k hk⟩, (Only.refl _ _).drewN 1⟩) (fun _ _ _ _ _ _ _ _ h _ => h) ?_ ?_
      · refine ⟨?_, ?_, ?_, ?_, ?_, ?_, ?_, ?_, ?_, ?_, ?_, ?_, ?_, ?_, ?_, ?_, trivial⟩
        · intro a w1 vs K dn Hd Hb HJ HK HD HN k
          have e0 := HK 0 (by decide)
          go_simp; exact k _ _ (by simp) HJ trivial rfl
        · intro a w1 vs K dn Hd Hb HJ HK HD HN k
          have e2 := HK 2 (by decide)
          go_simp; exact k _ _ (by simp) HJ trivial rfl
        · intro a w1 vs K dn Hd Hb HJ HK HD HN k
          have e0 := HK 0 (by decide)
          go_simp; exact k _ _ (by simp) HJ trivial rfl
        · intro a w1 vs K dn Hd Hb HJ HK HD HN k
          have e3 := HK 3 (by decide)
          go_simp; exact k _ _ (by simp) HJ trivial rfl
        · intro a w1 vs K dn Hd Hb HJ HK HD HN k
          have e0 := HK 0 (by decide)
          go_simp; exact k _ _ (by simp) HJ trivial rfl
        · intro a w1 vs K dn Hd Hb HJ HK HD HN k
          have e3 := HK 3 (by decide)
          go_simp; exact k _ _ (by simp) HJ trivial rfl
        · intro a w1 vs K dn Hd Hb HJ HK HD HN k
          have e18 := (HD 4 _ 18 rfl rfl rfl).1.trans (HD 4 _ 18 rfl rfl rfl).2
          have e19 := (HD 5 _ 19 rfl rfl rfl).1.trans (HD 5 _ 19 rfl rfl rfl).2
          go_simp; exact k _ _ (by simp) HJ trivial rfl
        · intro a w1 vs K dn Hd Hb HJ HK HD HN k
          have e20 := (HD 6 _ 20 rfl rfl rfl).1.trans (HD 6 _ 20 rfl rfl rfl).2
          have d13 : dn 13 = false := by cases hq : dn 13 with | false => rfl | true => exact absurd (Hd 13 hq).2 (by decide)
          have d15 : dn 15 = false := by cases hq : dn 15 with | false => rfl | true => exact absurd (Hd 15 hq).2 (by decide)
          obtain ⟨cs, q1, q2, q3⟩ := HJ.1
          have q4 := q3 j (by omega)
          rw [d13, d15] at q4
          simp only [Bool.false_and, Bool.false_eq_true, if_false] at q4
          exact wpo_loadS 38 (.tmp 20) rfl g (j * 2) (by simpa [Act.eval] using e20) (ordA (Fi j)) _ (ordA_cells q1 q4) und_order rfl info_order (k _ _ (by simp) HJ trivial rfl)
        · intro a w1 vs K dn Hd Hb HJ HK HD HN k
          have e0 := HK 0 (by decide)
          go_simp; exact k _ _ (by simp) HJ trivial rfl
        · intro a w1 vs K dn Hd Hb HJ HK HD HN k
          have e2 := HK 2 (by decide)
          go_simp; exact k _ _ (by simp) HJ trivial rfl
        · intro a w1 vs K dn Hd Hb HJ HK HD HN k
          have e22 := (HD 8 _ 22 rfl rfl rfl).1.trans (HD 8 _ 22 rfl rfl rfl).2
          have e23 := (HD 9 _ 23 rfl rfl rfl).1.trans (HD 9 _ 23 rfl rfl rfl).2
          go_simp; exact k _ _ (by simp) HJ trivial rfl
        · intro a w1 vs K dn Hd Hb HJ HK HD HN k
          have e24 := (HD 10 _ 24 rfl rfl rfl).1.trans (HD 10 _ 24 rfl rfl rfl).2
          have d13 : dn 13 = false := by cases hq : dn 13 with | false => rfl | true => exact absurd (Hd 13 hq).2 (by decide)
          have d15 : dn 15 = false := by cases hq : dn 15 with | false => rfl | true => exact absurd (Hd 15 hq).2 (by decide)
          obtain ⟨cs, q1, q2, q3⟩ := HJ.1
          have q4 := q3 i (by omega)
          rw [d13, d15] at q4
          simp only [Bool.false_and, Bool.false_eq_true, if_false] at q4
          exact wpo_loadS 38 (.tmp 24) rfl g (i * 2) (by simpa [Act.eval] using e24) (ordA (Fi i)) _ (ordA_cells q1 q4) und_order rfl info_order (k _ _ (by simp) HJ trivial rfl)
        · intro a w1 vs K dn Hd Hb HJ HK HD HN k
          have e14 := (HD 0 _ 14 rfl rfl rfl).1.trans (HD 0 _ 14 rfl rfl rfl).2
          have e15 := (HD 1 _ 15 rfl rfl rfl).1.trans (HD 1 _ 15 rfl rfl rfl).2
          go_simp; exact k _ _ (by simp) HJ trivial rfl
        · intro a w1 vs K dn Hd Hb HJ HK HD HN k
          have e26 := (HD 12 _ 26 rfl rfl rfl).1.trans (HD 12 _ 26 rfl rfl rfl).2
          have e21 := (HD 7 _ 21 rfl rfl rfl).1.trans (HD 7 _ 21 rfl rfl rfl).2
          obtain ⟨cs, q1, q2, q3⟩ := HJ.1
          refine wpo_storeS 38 (.tmp 26) (.tmp 21) rfl rfl g (i * 2) (by simpa [Act.eval] using e26) (ordA (Fi j)) (by simpa [Act.eval] using e21) _ cs q1 (by show i * 2 + 2 ≤ cs.size; omega) (ordA_one _) info_order ?_
          intro w2 hk2 ho2
          refine k _ _ (by simp) ⟨⟨_, hk2, by rw [splA_size]; exact q2, ?_⟩, HJ.2.trans ho2⟩ trivial trivial
          intro m hm
          have q5 := ords_set cs cap n q2 hnc _ q3 i (by omega) (Fi j) m hm
          refine Eq.mp (congrArg (OrdCells _ m) ?_) q5
          by_cases e : m = i <;> simp [updB, e]
        · intro a w1 vs K dn Hd Hb HJ HK HD HN k
          have e16 := (HD 2 _ 16 rfl rfl rfl).1.trans (HD 2 _ 16 rfl rfl rfl).2
          have e17 := (HD 3 _ 17 rfl rfl rfl).1.trans (HD 3 _ 17 rfl rfl rfl).2
          go_simp; exact k _ _ (by simp) HJ trivial rfl
        · intro a w1 vs K dn Hd Hb HJ HK HD HN k
          have e27 := (HD 14 _ 27 rfl rfl rfl).1.trans (HD 14 _ 27 rfl rfl rfl).2
          have e25 := (HD 11 _ 25 rfl rfl rfl).1.trans (HD 11 _ 25 rfl rfl rfl).2
          obtain ⟨cs, q1, q2, q3⟩ := HJ.1
          refine wpo_storeS 38 (.tmp 27) (.tmp 25) rfl rfl g (j * 2) (by simpa [Act.eval] using e27) (ordA (Fi i)) (by simpa [Act.eval] using e25) _ cs q1 (by show j * 2 + 2 ≤ cs.size; omega) (ordA_one _) info_order ?_
          intro w2 hk2 ho2
          refine k _ _ (by simp) ⟨⟨_, hk2, by rw [splA_size]; exact q2, ?_⟩, HJ.2.trans ho2⟩ trivial trivial
          intro m hm
          have q5 := ords_set cs cap n q2 hnc _ q3 j (by omega) (Fi i) m hm
          refine Eq.mp (congrArg (OrdCells _ m) ?_) q5
          by_cases e : m = j <;> simp [updB, e, hne']
      intro vs dn w1 hall hJ hrr
      have d13 := hall 13 (by decide)
      have d15 := hall 15 (by decide)
      rw [d13, d15] at hJ
      simp only [Bool.true_and, beq_iff_eq] at hJ
      rw [HS.out] at hJ
      have HO := Lib.hid hJ
      have HO2 := hO
      clear hJ hrr hall d13 d15 hO hO0
      simp only [putAll, Act.put]
      go_wp2_with fail
      go_roundw
      case rel => exact ⟨i + 1, by omega, by go_num, congrArg (Value.int .i64) (by have := HJ.out; omega), Lib.hid ⟨HO.out.1, HO2.out.2.trans HO.out.2⟩⟩
      case measure => simp [intOf]; omega
    · have hge : ¬ (i : Int) < (n : Int) - 1 - i := by omega
      have hge' : (n : Int) - 1 - i ≤ (i : Int) := by omega
      have HR := Lib.hid (show ∀ m, m < n → revF n i F m = F (n - 1 - m) by
        intro m hm
        unfold revF
        by_cases e : m < i ∨ n ≤ m + i
        · rw [if_pos e]
        · rw [if_neg e]; congr 1; omega)
      go_wp2_with fail
      go_end0
      obtain ⟨⟨cs, h1, h2, h3⟩, h4⟩ := hO.out
      exact ⟨rfl, ⟨cs, h1, h2, fun m hm => by have h5 := h3 m hm; rw [HR.out m hm] at h5; exact h5⟩, h4⟩
set_option maxRecDepth 100000 in
set_option maxHeartbeats 1000000 in
theorem reverseNil_any (w : World) :
    Calls Tryz.prog 117 #[.slice none 0 0] w fun e w' => e = .returned (.tuple #[]) ∧ w = w' := by
  go_enter Tryz.func117, Tryz.ntmps117
  go_wp2_with fail
  refine wp_loop_rounds 1 ?_
  rw [rounds_succ]
  go_wp2_with fail
  go_end0
  exact ⟨rfl, rfl⟩

def ordL (l : List LitD) : List Value := l.flatMap fun o => [.int .i64 o.valve, .bool o.opn]
theorem ordL_get (l : List LitD) : ∀ k, k < l.length → (ordL l)[k * 2]? = some (.int .i64 (l.getD k lit0).valve) ∧ (ordL l)[k * 2 + 1]? = some (.bool (l.getD k lit0).opn) := by
  induction l with
  | nil => intro k hk; simp at hk
  | cons o l ih =>
    intro k hk
    cases k with
    | zero => exact ⟨rfl, rfl⟩
    | succ k =>
      have := ih k (by simpa using hk)
      have e : ordL (o :: l) = [.int .i64 o.valve, .bool o.opn] ++ ordL l := rfl
      rw [e]
      rw [show (k + 1) * 2 = 2 + k * 2 from by omega]
      refine ⟨?_, ?_⟩
      · rw [List.getElem?_append_right (by simp)]; simpa using this.1
      · rw [List.getElem?_append_right (by simp; omega), show 2 + k * 2 + 1 - [Value.int .i64 o.valve, Value.bool o.opn].length = k * 2 + 1 from by simp; omega]; simpa using this.2
theorem own_ords {w : World} {B g cap : Nat} {l : List LitD} {v : Value} (h : w.ownsRow B 38 2 v l.length (ordL l)) (hv : v = .slice (some ⟨g, 0, none⟩) l.length cap) : OrdsAt w g cap l.length (fun k => l.getD k lit0) ∧ l.length ≤ cap ∧ B ≤ g := by
  rcases h.2 with ⟨rfl, _⟩ | ⟨g', cap', cur, e, hB, hg, hn, _, hs, ht⟩
  · simp at hv
  · rw [hv] at e
    simp only [Value.slice.injEq, Option.some.injEq, Addr.mk.injEq, and_true, true_and] at e
    obtain ⟨rfl, rfl⟩ := e
    refine ⟨⟨cur, hg, hs, fun k hk => ?_⟩, hn, hB⟩
    have := ordL_get l k hk
    rw [← ht, List.getElem?_take, List.getElem?_take, if_pos (by omega), if_pos (by omega)] at this
    simpa [OrdCells] using this
/-- The orders l as a slice of new memory. -/
def OrdSl (w : World) (B : Nat) (v : Value) (l : List LitD) : Prop := (l = [] ∧ v = .slice none 0 0) ∨ ∃ g cap, v = .slice (some ⟨g, 0, none⟩) l.length cap ∧ OrdsAt w g cap l.length (fun k => l.getD k lit0) ∧ B ≤ g ∧ l.length ≤ cap
def Chain (w : World) (R : RowC) (k : Nat) (acc : List LitD) (rv : Value) : Prop := (rv = .pointer none ∧ acc = R.back) ∨ ∃ r b, rv = .pointer (some ⟨b, 0, none⟩) ∧ RowIn w r b ∧ acc ++ r.back = R.back ∧ r.depth + 1 ≤ k
theorem info_ordC : (Tryz.prog.info? 38).map (fun i => (i.zero, i.size, i.bytes)) = some (some (.agg #[.int .i64 0, .bool false]), 2, 16) := by kernel_rfl

set_option maxRecDepth 100000 in
set_option maxHeartbeats 2000000 in
theorem orders_any (w : World) (R : RowC) (b0 : Nat) (h : RowIn w R b0) (hd : R.depth ≤ 50000) :
    Calls Tryz.prog 52 #[.pointer (some ⟨b0, 0, none⟩)] w fun e w' => ∃ v, e = .returned v ∧ OrdSl w' w.heap.size v R.back.reverse ∧ Below w.heap.size w w' := by
  obtain ⟨i0, hi, hz0, hz1, hz2⟩ := info_parts info_ordC
  have H0 := Lib.hid h; clear h
  have hdl := R.back_le
  go_enter Tryz.func52, Tryz.ntmps52
  go_wp2_with fail
  go_loopg [0, 3] (R.depth + 1) (fun k rv lv wr => ∃ acc : List LitD, wr.ownsRow w.heap.size 38 2 lv acc.length (ordL acc) ∧ Below w.heap.size w wr ∧ Hid (Chain w R k acc rv))
  case atStart => exact ⟨[], World.ownsRow_nil _ _ _ _, Below.refl _ _, Lib.hid (.inr ⟨R, b0, rfl, H0.out, rfl, Nat.le_refl _⟩)⟩
  case round =>
    obtain ⟨acc, hown, hb, hC⟩ := hrel
    rcases hC.out with ⟨rfl, hacc⟩ | ⟨r, b, rfl, hr, hacc, hk⟩
    · have HA := Lib.hid hacc
      have HO := Lib.hid hown
      have hl : acc.length ≤ 100000 := by rw [hacc]; omega
      rcases hown.2 with ⟨rfl, hn⟩ | ⟨g, cap, cur, hv, hg, hrest⟩
      · have HN : Hid (acc = []) := Lib.hid (List.eq_nil_of_length_eq_zero hn)
        clear hown hacc hn hC hl
        go_wp2_with fail
        refine (reverseNil_any _).mono ?_
        rintro e w' ⟨rfl, rfl⟩
        go_wp2_with fail
        go_ret
        exact ⟨_, rfl, .inl ⟨by rw [← HA.out, HN.out]; rfl, rfl⟩, hb⟩
      · obtain ⟨q1, q2, q3⟩ := own_ords hown hv
        subst hv
        have HR := Lib.hid (reverse_any wr g cap acc.length _ q1 q2 hl)
        have H2 := Lib.hid q2
        have H3 := Lib.hid q3
        clear hown hacc hC hl hrest hg q1 q2 q3
        go_wp2_with fail
        refine HR.out.mono ?_
        rintro e w' ⟨rfl, hO, hW⟩
        have HO' := Lib.hid hO
        have hb' : Below w.heap.size w w' := hb.trans (hW.below H3.out)
        clear hO hW
        go_wp2_with fail
        go_ret
        refine ⟨.slice (some ⟨g, 0, none⟩) acc.length cap, rfl, .inr ⟨g, cap, by rw [← HA.out, List.length_reverse], ?_, H3.out, by rw [← HA.out, List.length_reverse]; exact H2.out⟩, hb'⟩
        obtain ⟨cs, r1, r2, r3⟩ := HO'.out
        rw [← HA.out, List.length_reverse]
        refine ⟨cs, r1, r2, fun k hk => ?_⟩
        have := r3 k hk
        show OrdCells cs k (acc.reverse.getD k lit0)
        rw [show acc.reverse.getD k lit0 = acc.getD (acc.length - 1 - k) lit0 from by rw [List.getD_eq_getElem?_getD, List.getElem?_reverse hk, ← List.getD_eq_getElem?_getD]]
        exact this
    · match r, hr with
      | .root s, hr =>
        have hbk : Bk w b 140 (rowA s (.pointer none) (.pointer none)) := hr
        have c24 : wr.cell? ⟨b, 24, none⟩ = some (.pointer none) := (hb.cell (p := ⟨b, 24, none⟩) hbk.lt).trans (hbk.cell 24)
        have c25 : wr.cell? ⟨b, 25, none⟩ = some (.pointer none) := (hb.cell (p := ⟨b, 25, none⟩) hbk.lt).trans (hbk.cell 25)
        have HA := Lib.hid hacc
        have HK := Lib.hid hk
        clear hacc hbk hr hC hk
        go_wp2_with fail
        go_roundg 0
        case rel => exact ⟨acc, hown, hb, Lib.hid (.inl ⟨rfl, by simpa [RowC.back] using HA.out⟩)⟩
        case measure => have := HK.out; omega
      | .step s r' none, hr =>
        obtain ⟨b', hr', hbk⟩ := hr
        have c24 : wr.cell? ⟨b, 24, none⟩ = some (.pointer (some ⟨b', 0, none⟩)) := (hb.cell (p := ⟨b, 24, none⟩) hbk.lt).trans (hbk.cell 24)
        have c25 : wr.cell? ⟨b, 25, none⟩ = some (.pointer none) := (hb.cell (p := ⟨b, 25, none⟩) hbk.lt).trans (hbk.cell 25)
        have HA := Lib.hid hacc
        have HK := Lib.hid hk
        have HR := Lib.hid hr'
        clear hacc hbk hr' hC hk
        go_wp2_with fail
        go_roundg (r'.depth + 1)
        case rel => exact ⟨acc, hown, hb, Lib.hid (.inr ⟨r', b', rfl, HR.out, HA.out, Nat.le_refl _⟩)⟩
        case measure => have := HK.out; simp only [RowC.depth] at this; omega
      | .step s r' (some o), hr =>
        obtain ⟨b', ob, hr', hob, hbk⟩ := hr
        have c24 : wr.cell? ⟨b, 24, none⟩ = some (.pointer (some ⟨b', 0, none⟩)) := (hb.cell (p := ⟨b, 24, none⟩) hbk.lt).trans (hbk.cell 24)
        have c25 : wr.cell? ⟨b, 25, none⟩ = some (.pointer (some ⟨ob, 0, none⟩)) := (hb.cell (p := ⟨b, 25, none⟩) hbk.lt).trans (hbk.cell 25)
        have o0 : wr.cell? ⟨ob, 0, none⟩ = some (.int .i64 o.valve) := (hb.cell (p := ⟨ob, 0, none⟩) hob.lt).trans (hob.cell 0)
        have o1 : wr.cell? ⟨ob, 1, none⟩ = some (.bool o.opn) := (hb.cell (p := ⟨ob, 1, none⟩) hob.lt).trans (hob.cell 1)
        have hl : acc.length ≤ 100000 := by
          have := congrArg List.length hacc
          simp only [List.length_append] at this
          omega
        have HA := Lib.hid hacc
        have HK := Lib.hid hk
        have HR := Lib.hid hr'
        have HBK := Lib.hid hbk.lt
        have hsz := hb.size
        clear hacc hbk hr' hC hk hob
        go_wp2_with (first | (at_builtin; refine wpList_append_own _ rfl _ _ 31 rfl w.heap.size 38 i0 (.agg #[.int .i64 0, .bool false]) 2 16 Tryz.underlying31 hi hz0 hz1 hz2 rfl (by decide) _ _ _ rfl (hown.alloc _) ⟨wr.heap.size, 0, none⟩ 1 1 [.int .i64 o.valve, .bool o.opn] rfl rfl ?c1 ?c2 ?c3 ?c4 ?c5 ?_))
        case c1 => intro j u hj; match j, hj with | 0, hj => simp at hj; subst hj; simp [Addr.add] | 1, hj => simp at hj; subst hj; simp [Addr.add]
        case c2 => intro u hu; simp at hu; rcases hu with rfl | rfl <;> rfl
        case c3 => unfold maxLen; omega
        case c4 => omega
        case c5 => simp; omega
        intro v' w1 hown' hgrow _
        have hs1 := hgrow.size
        simp only [World.size_alloc] at hs1
        have hbw : Below w.heap.size wr w1 := ((Below.refl _ wr).alloc (by omega) _).grown hgrow (by simp; omega) (fun g hg => (hown.lt g hg).1)
        have d24 : w1.cell? ⟨b, 24, none⟩ = some (.pointer (some ⟨b', 0, none⟩)) := (hbw.cell (p := ⟨b, 24, none⟩) HBK.out).trans c24
        have hown2 : w1.ownsRow w.heap.size 38 2 v' (acc ++ [o]).length (ordL (acc ++ [o])) := by
          rw [List.length_append, show ordL (acc ++ [o]) = ordL acc ++ [.int .i64 o.valve, .bool o.opn] from by simp [ordL]]; exact hown'
        have HW := Lib.hid hown2
        have hb1 := hb.trans hbw
        clear hown hown' hown2 hgrow hbw
        go_wp2_with fail
        go_roundg (r'.depth + 1)
        case rel => exact ⟨acc ++ [o], HW.out, hb1, Lib.hid (.inr ⟨r', b', rfl, HR.out, by rw [List.append_assoc]; exact HA.out, Nat.le_refl _⟩)⟩
        case measure => have := HK.out; simp only [RowC.depth] at this; omega
end Go.Proofs.YtogobjmmgjfjjaaGreat
/- What is proved: when two arrays of spots differ, what a row is built of, what Go's text computes of them. Conditions: the places are within int8. -/
namespace Go.Proofs.YtogobjmmgjfjjaaGreat
open Go.RowKit Go.Maps Go.WideMaps
theorem spotsK_iff (s t : Spots) : spotsK s = spotsK t ↔ sameSp s t = true := by
  rw [sameSp_iff]
  constructor
  · intro h i hi
    have key : ∀ i, i < 12 → (s i).place = (t i).place ∧ (s i).opn = (t i).opn := by
      intro i hi
      have e : ∀ u : Spots, (spotsK u)[i * 2]? = some (.int .i8 (u i).place) ∧ (spotsK u)[i * 2 + 1]? = some (.bool (u i).opn) := by
        intro u
        match i, hi with
        | 0, _ => exact ⟨rfl, rfl⟩
        | 1, _ => exact ⟨rfl, rfl⟩
        | 2, _ => exact ⟨rfl, rfl⟩
        | 3, _ => exact ⟨rfl, rfl⟩
        | 4, _ => exact ⟨rfl, rfl⟩
        | 5, _ => exact ⟨rfl, rfl⟩
        | 6, _ => exact ⟨rfl, rfl⟩
        | 7, _ => exact ⟨rfl, rfl⟩
        | 8, _ => exact ⟨rfl, rfl⟩
        | 9, _ => exact ⟨rfl, rfl⟩
        | 10, _ => exact ⟨rfl, rfl⟩
        | 11, _ => exact ⟨rfl, rfl⟩
      have a := e s
      have b := e t
      rw [h] at a
      have e1 := a.1.symm.trans b.1
      have e2 := a.2.symm.trans b.2
      simp only [Option.some.injEq, Lit.int.injEq, Lit.bool.injEq, true_and] at e1 e2
      exact ⟨e1, e2⟩
    obtain ⟨a, b⟩ := key i hi
    generalize s i = x at *
    generalize t i = y at *
    cases x; cases y; simp only at a b; simp [a, b]
  · intro h
    unfold spotsK
    rw [List.flatMap_def, List.flatMap_def]
    congr 1
    apply List.map_congr_left
    intro i hi
    rw [h i (by simpa using hi)]
theorem run_neq_spots (s t : Spots) (hs : PlacesOk s) (ht : PlacesOk t) (w : World) : (binOp .neq 105 (.agg (spotsA s)) (.agg (spotsA t))).run Tryz.prog w = .ok (.bool (!sameSp s t)) w := by
  obtain ⟨r, h1, h2⟩ := run_equalIn_deep (P := Tryz.prog) 9996 4 105 (by kernel_rfl) w 4 4 (.agg (spotsA s)) (.agg (spotsA t)) (spotsK s) (spotsK t) (spots_formed s) (spots_formed t) (keyLitsSpots s hs 0) (keyLitsSpots t ht 0)
  rw [run_neq_struct, h1]
  have : r = sameSp s t := by
    rw [Bool.eq_iff_iff, h2, spotsK_iff]
  rw [this]
  rfl
theorem wpo_neqS {P : Program} {o : Oper} {a : Act} {w : World} {K : Act → World → Prop} {Q : Exit → Act → World → Prop} (ty yt : TypeId) (x y : Operand) (ho : o.op = .binOp .neq ty x y yt) (xs ys : Array Value) (hx : a.eval x = .agg xs) (hy : a.eval y = .agg ys)
    (hm : P.eqGuardType P.depth ty = false) (r : Bool) (hr : (binOp .neq ty (.agg xs) (.agg ys)).run P w = .ok (.bool r) w) (h : K (a.put o.dst (.bool r)) w) : o.wp P a w K Q := by
  unfold Oper.wp execOp
  simp only [ho, hx, hy, Sem.run_bind, Sem.run_pure, run_eqGuard_agg w .neq ty x y xs ys hm, Result.andThen_ok, hr]
  exact h
theorem guardSpots : Tryz.prog.eqGuardType Tryz.prog.depth 105 = false := by kernel_rfl
theorem built_row (s : Spots) (f o : Option Addr) : Tryz.prog.built 140 [(0, .agg (spotsA s)), (1, .pointer f), (2, .pointer o)] = some (rowA s (.pointer f) (.pointer o)) := by kernel_rfl
theorem built_row1 (s : Spots) : Tryz.prog.built 140 [(0, .agg (spotsA s))] = some (rowA s (.pointer none) (.pointer none)) := by kernel_rfl
theorem built_free : Tryz.prog.built 106 [] = some (stuckA fun _ => false) := by kernel_rfl
end Go.Proofs.YtogobjmmgjfjjaaGreat
/- What is proved: a contract of engine.search.follow. Conditions: the search and the row lie in memory; the row's state is one of the plant's. -/
namespace Go.Proofs.YtogobjmmgjfjjaaGreat
open Go.RowKit

theorem trysS_step (p : PlantD) (g : List LitD) (r : RowC) (N q : Nat) (s : Srch) (hq : q < N) :
    trysS p g r (N - q) q s = if (try1S p g r (q / 2) (q % 2 == 1) s).1 then trysS p g r (N - (q + 1)) (q + 1) (try1S p g r (q / 2) (q % 2 == 1) s).2 else (false, (try1S p g r (q / 2) (q % 2 == 1) s).2) := by
  obtain ⟨m, hm⟩ : ∃ m, N - q = m + 1 := ⟨N - q - 1, by omega⟩
  rw [hm, show N - (q + 1) = m from by omega, trysS]
def InR (w : World) (B : Nat) (X : SrX) (p : PlantD) (g : List LitD) (r : RowC) (st : Srch) (wr : World) (q : Nat) (s : Srch) : Prop :=
  SrIn wr B X p g s ∧ Fr B w wr ∧ trysS p g r (2 * p.valves.length) 0 st = trysS p g r (2 * p.valves.length - q) q s

theorem SrIn.below {w w' : World} {B : Nat} {X : SrX} {p : PlantD} {g : List LitD} {st : Srch} (h : SrIn w B X p g st) (hb : Below w.heap.size w w') : SrIn w' B X p g st := by
  obtain ⟨qv, fv, rb, h⟩ := h
  exact ⟨qv, fv, rb, h.below hb⟩
theorem SrIn.lt {w : World} {B : Nat} {X : SrX} {p : PlantD} {g : List LitD} {st : Srch} (h : SrIn w B X p g st) : B ≤ w.heap.size := by
  obtain ⟨qv, fv, rb, h⟩ := h
  exact h.lt
theorem SrIn.loadPlant {w : World} {B : Nat} {X : SrX} {p : PlantD} {g : List LitD} {st : Srch} (h : SrIn w B X p g st) : ∀ j u, (plantA X.pv p)[j]? = some u → w.cell? ⟨X.sb, 0 + j, none⟩ = some u := fun j u hj => by
  obtain ⟨qv, fv, rb, h⟩ := h
  rw [Nat.zero_add]; exact (h.s.cell j).trans (searchA_plant _ _ _ _ _ _ _ j u hj)
theorem SrIn.plant {w : World} {B : Nat} {X : SrX} {p : PlantD} {g : List LitD} {st : Srch} (h : SrIn w B X p g st) : PlantAt w w.heap.size X.pv p := by
  obtain ⟨qv, fv, rb, h⟩ := h
  exact h.plant.mono h.lt
theorem RowIn.load {w : World} {r : RowC} {b : Nat} (h : RowIn w r b) : ∀ j u, (spotsA r.at_)[j]? = some u → w.cell? ⟨b, 0 + j, none⟩ = some u := fun j u hj => by
  obtain ⟨f, o, h⟩ := h.bk
  rw [Nat.zero_add]; exact (h.cell j).trans (rowA_at _ _ _ j u hj)
theorem InR.below {w : World} {B : Nat} {X : SrX} {p : PlantD} {g : List LitD} {r : RowC} {st : Srch} {wr w2 : World} {q : Nat} {s : Srch} (h : InR w B X p g r st wr q s) (hb : Below wr.heap.size wr w2) : InR w B X p g r st w2 q s :=
  ⟨h.1.below hb, h.2.1.trans (Fr.of_below hb h.1.lt), h.2.2⟩
/-- One order more: it was not taken up, or its row was new and the search goes on. -/
theorem InR.next {w : World} {B : Nat} {X : SrX} {p : PlantD} {g : List LitD} {r : RowC} {st : Srch} {wr w2 : World} {k m : Nat} {o : Bool} {s s2 : Srch} (h : InR w B X p g r st wr (2 * k + m) s) (hk : k < p.valves.length) (hm : m < 2) (ho : o = (m == 1))
    (ht : try1S p g r k o s = (true, s2)) (hs : SrIn w2 B X p g s2) (hf : Fr B wr w2) : InR w B X p g r st w2 (2 * k + (m + 1)) s2 := by
  refine ⟨hs, h.2.1.trans hf, h.2.2.trans ?_⟩
  rw [trysS_step p g r _ _ s (by omega), show (2 * k + m) / 2 = k from by omega, show ((2 * k + m) % 2 == 1) = o from by rw [ho, show (2 * k + m) % 2 = m from by omega], ht]
  rfl
theorem InR.stop {w : World} {B : Nat} {X : SrX} {p : PlantD} {g : List LitD} {r : RowC} {st : Srch} {wr : World} {k m : Nat} {o : Bool} {s s2 : Srch} (h : InR w B X p g r st wr (2 * k + m) s) (hk : k < p.valves.length) (hm : m < 2) (ho : o = (m == 1))
    (ht : try1S p g r k o s = (false, s2)) : trysS p g r (2 * p.valves.length) 0 st = (false, s2) := by
  refine h.2.2.trans ?_
  rw [trysS_step p g r _ _ s (by omega), show (2 * k + m) / 2 = k from by omega, show ((2 * k + m) % 2 == 1) = o from by rw [ho, show (2 * k + m) % 2 = m from by omega], ht]
  rfl

set_option maxRecDepth 100000 in
set_option maxHeartbeats 8000000 in
theorem follow_any (w : World) (B : Nat) (X : SrX) (p : PlantD) (g : List LitD) (st : Srch) (h0 : SrIn w B X p g st) (hv : ValvesOk p) (hN : NeverOk p) (hG : GoalOk p g) (r : RowC) (b : Nat) (hr : RowIn w r b) (hs : SpotsOk p r.at_) :
    Calls Tryz.prog 51 #[.pointer (some ⟨X.sb, 0, none⟩), .pointer (some ⟨b, 0, none⟩)] w
      fun e w' => e = .returned (.bool (followS p g r st).1) ∧ SrIn w' B X p g (followS p g r st).2 ∧ Fr B w w' := by
  have HP : Hid (PlacesOk r.at_) := Lib.hid (hs.places hv)
  have HR0 := Lib.hid hr
  have HSO := Lib.hid hs
  have HI0 : Hid (InR w B X p g r st w 0 st) := Lib.hid ⟨h0, Fr.refl _ _, rfl⟩
  have c1 : w.cell? ⟨X.sb, 1, none⟩ = some (.slice X.pv.vA p.valves.length X.pv.vc) := by obtain ⟨_, _, _, h⟩ := h0; exact h.s.cell 1
  have HBw : Hid (B ≤ w.heap.size) := Lib.hid (by obtain ⟨_, _, _, h⟩ := h0; exact h.lt)
  have hv12 := hv.1
  obtain ⟨n, hn⟩ : ∃ n, n = p.valves.length := ⟨_, rfl⟩
  rw [← hn] at c1 hv12
  have HNN := Lib.hid hn
  have Hf := Lib.hid (show followS p g r st = if (trysS p g r (2 * p.valves.length) 0 st).1 then reachS p g (trysS p g r (2 * p.valves.length) 0 st).2 (.step (movedB p r.at_ fun _ => false) r none) else (false, (trysS p g r (2 * p.valves.length) 0 st).2) from rfl)
  clear h0 hr hs hn
  go_enter Tryz.func51, Tryz.ntmps51
  go_wp2_with fail
  go_loopw [17] (fun v wr => ∃ k : Nat, k ≤ n ∧ v = .int .i64 k ∧ Hid (∃ s1, InR w B X p g r st wr (2 * k) s1)) (fun v _ => n - (intOf v).toNat)
  case atStart => exact ⟨0, Nat.zero_le _, rfl, Lib.hid ⟨_, HI0.out⟩⟩
  case round =>
    obtain ⟨k, hk, rfl, hI⟩ := hrel
    obtain ⟨wo, rfl⟩ : ∃ wo : World, wo = wr := ⟨_, rfl⟩
    by_cases hlt : k < n
    · go_wp2_with fail
      go_loopw [22] (fun v wr => ∃ m : Nat, m ≤ 2 ∧ v = .int .i64 m ∧ Hid (∃ s1, InR w B X p g r st wr (2 * k + m) s1 ∧ Bk wr wo.heap.size 4 #[.bool false, .bool true])) (fun v _ => 2 - (intOf v).toNat)
      case atStart =>
        obtain ⟨s1, hI1⟩ := hI.out
        exact ⟨0, by omega, rfl, Lib.hid ⟨s1, hI1.below ((Below.refl _ _).alloc (Nat.le_refl _) _), Bk.new _ _ _⟩⟩
      case round =>
        obtain ⟨m, hm, rfl, hI2⟩ := hrel
        clear hI
        by_cases hm2 : m < 2
        · obtain ⟨s1, hIn, hbb⟩ := hI2.out
          obtain ⟨o, ho⟩ : ∃ o, o = (m == 1) := ⟨_, rfl⟩
          have cb : wr.cell? ⟨wo.heap.size, m, none⟩ = some (.bool o) := by
            match m, hm2, ho with
            | 0, _, ho => rw [ho]; exact hbb.cell 0
            | 1, _, ho => rw [ho]; exact hbb.cell 1
          have hmi : (m : Int) < (2 : Int) := by omega
          have h0m : (0 : Int) ≤ (m : Int) := by omega
          have hkp : k < p.valves.length := by rw [← HNN.out]; exact hlt
          have HIn := Lib.hid hIn
          have HBB0 := Lib.hid hbb
          have HO1 := Lib.hid ho
          clear hIn hbb ho
          go_wp2_with fail
          obtain ⟨W, hW⟩ : ∃ W, W = wr.alloc (.cells #[.int .i64 k, .bool o] 38) := ⟨_, rfl⟩
          have hWs : W.heap.size = wr.heap.size + 1 := by rw [hW]; simp
          have hbW : Below wr.heap.size wr W := by rw [hW]; exact (Below.refl _ _).alloc (Nat.le_refl _) _
          have hob : Bk W wr.heap.size 38 #[.int .i64 k, .bool o] := by rw [hW]; exact Bk.new _ _ _
          rw [← hW]
          clear hW
          obtain ⟨nx, hnx⟩ : ∃ nx, nx = wantB r.at_ k o := ⟨_, rfl⟩
          have HNX0 := Lib.hid hnx
          have hIW := HIn.out.below hbW
          have hrW := HR0.out.fr hIW.2.1
          have EE : Hid (∀ (j : Nat) (w1 w2 : World), Below w1.heap.size w1 w2 → (j ≠ 14 → Below w1.heap.size w1 w2) ∧ ∀ (g : Nat) (cs : Array Value), cs.size = 24 → Bk w1 g 105 cs → ∃ cs', cs'.size = 24 ∧ Bk w2 g 105 cs') := Lib.hid fun j w1 w2 hb => ⟨fun _ => hb, fun g cs h1 h2 => ⟨cs, h1, h2.below hb h2.lt⟩⟩
          have HPl := Lib.hid fun (w1 : World) (hw1 : Below W.heap.size W w1) => (hIW.1.below hw1).loadPlant
          have HR := Lib.hid fun (w1 : World) (hw1 : Below W.heap.size W w1) => (hrW.fr (Fr.of_below hw1 hIW.1.lt)).load
          have HO := Lib.hid fun (w1 : World) (hw1 : Below W.heap.size W w1) j u (hj : (#[.int .i64 k, .bool o] : Array Value)[j]? = some u) => ((hob.below hw1 hob.lt).cell (0 + j)).trans (by rw [Nat.zero_add]; exact hj : (#[.int .i64 k, .bool o] : Array Value)[0 + j]? = some u)
          have HC := Lib.hid fun (w1 : World) (hw1 : Below W.heap.size W w1) => order_any w1 X.pv p (hIW.1.below hw1).plant hv hN r.at_ HSO.out k o hkp
          rw [← hnx] at HC
          have HOB := Lib.hid hob
          have HBW := Lib.hid hbW
          have HWS := Lib.hid hWs
          clear hnx hIW hrW hob hbW hWs cb
          refine wp_region_steps (by kernel_rfl) (by kernel_rfl) (fun w1 => Below W.heap.size W w1) (fun j w1 w2 => (j ≠ 14 → Below w1.heap.size w1 w2) ∧ ∀ (g : Nat) (cs : Array Value), cs.size = 24 → Bk w1 g 105 cs → ∃ cs', cs'.size = 24 ∧ Bk w2 g 105 cs')
            (fun ix u d w1 => (match ix with
              | 0 => u = .pointer (some ⟨X.sb, 0, none⟩)
              | 1 => u = .pointer (some ⟨X.sb, 0, none⟩)
              | 2 => u = .pointer (some ⟨X.sb, 0, none⟩)
              | 3 => u = .agg (plantA X.pv p)
              | 4 => u = .pointer (some ⟨b, 0, none⟩)
              | 5 => u = .pointer (some ⟨b, 0, none⟩)
              | 6 => u = .pointer (some ⟨b, 0, none⟩)
              | 7 => u = .agg (spotsA r.at_)
              | 8 => u = .agg #[.int .i64 k, .bool o]
              | 9 => u = .tuple #[.agg (spotsA nx), .bool (safeB p nx)]
              | 10 => u = .tuple #[.agg (spotsA nx), .bool (safeB p nx)]
              | 11 => u = .agg (spotsA nx)
              | 12 => u = .bool (safeB p nx)
              | 13 => True
              | 14 => True
              | _ => u = .bool (safeB p nx)) ∧ (ix = 13 → ∃ g, u = .pointer (some ⟨g, 0, none⟩) ∧ W.heap.size ≤ g ∧ ∃ cs, cs.size = 24 ∧ Bk w1 g 105 cs) ∧ (ix = 14 → ∃ g, d 13 = .pointer (some ⟨g, 0, none⟩) ∧ W.heap.size ≤ g ∧ Bk w1 g 105 (spotsA nx))) (Below.refl _ _).drew (by rintro i j hij _ u d w1 w2 ⟨hr1, hr2, hr3⟩ hJ ⟨hE1, hE2⟩; exact ⟨hr1, fun e => (by obtain ⟨g, e1, e2, cs, e3, e4⟩ := hr2 e; exact ⟨g, e1, e2, hE2 g cs e3 e4⟩), fun e => (by obtain ⟨g, e1, e2, e3⟩ := hr3 e; exact ⟨g, e1, e2, e3.below (hE1 fun h => hij (e.trans h.symm)) e3.lt⟩)⟩) ?_ ?_
          · refine ⟨?_, ?_, ?_, ?_, ?_, ?_, ?_, ?_, ?_, ?_, ?_, ?_, ?_, ?_, ?_, ?_, trivial⟩
            · intro a w1 vs K HJ HK HD HN kk
              have e0 := HK 0 (by decide)
              go_simp; exact kk _ _ (by simp) HJ (EE.out _ _ _ (Below.refl _ _)) ⟨rfl, fun e => by omega, fun e => by omega⟩
            · intro a w1 vs K HJ HK HD HN kk
              have e30 := (HD 0 _ 30 rfl rfl rfl).1.trans (HD 0 _ 30 rfl rfl rfl).2.1
              go_simp; exact kk _ _ (by simp) HJ (EE.out _ _ _ (Below.refl _ _)) ⟨rfl, fun e => by omega, fun e => by omega⟩
            · intro a w1 vs K HJ HK HD HN kk
              have e31 := (HD 1 _ 31 rfl rfl rfl).1.trans (HD 1 _ 31 rfl rfl rfl).2.1
              go_simp; exact kk _ _ (by simp) HJ (EE.out _ _ _ (Below.refl _ _)) ⟨rfl, fun e => by omega, fun e => by omega⟩
            · intro a w1 vs K HJ HK HD HN kk
              have e32 := (HD 2 _ 32 rfl rfl rfl).1.trans (HD 2 _ 32 rfl rfl rfl).2.1
              exact wpo_loadS 27 (.tmp 32) rfl X.sb 0 (by simpa [Act.eval] using e32) (plantA X.pv p) _ (HPl.out w1 HJ) und_plant rfl info_plant (kk _ _ (by simp) HJ (EE.out _ _ _ (Below.refl _ _)) ⟨rfl, fun e => by omega, fun e => by omega⟩)
            · intro a w1 vs K HJ HK HD HN kk
              have e1 := HK 1 (by decide)
              go_simp; exact kk _ _ (by simp) HJ (EE.out _ _ _ (Below.refl _ _)) ⟨rfl, fun e => by omega, fun e => by omega⟩
            · intro a w1 vs K HJ HK HD HN kk
              have e34 := (HD 4 _ 34 rfl rfl rfl).1.trans (HD 4 _ 34 rfl rfl rfl).2.1
              go_simp; exact kk _ _ (by simp) HJ (EE.out _ _ _ (Below.refl _ _)) ⟨rfl, fun e => by omega, fun e => by omega⟩
            · intro a w1 vs K HJ HK HD HN kk
              have e35 := (HD 5 _ 35 rfl rfl rfl).1.trans (HD 5 _ 35 rfl rfl rfl).2.1
              go_simp; exact kk _ _ (by simp) HJ (EE.out _ _ _ (Below.refl _ _)) ⟨rfl, fun e => by omega, fun e => by omega⟩
            · intro a w1 vs K HJ HK HD HN kk
              have e36 := (HD 6 _ 36 rfl rfl rfl).1.trans (HD 6 _ 36 rfl rfl rfl).2.1
              exact wpo_loadS 105 (.tmp 36) rfl b 0 (by simpa [Act.eval] using e36) (spotsA r.at_) _ (HR.out w1 HJ) und_spots rfl (info_spots_s _) (kk _ _ (by simp) HJ (EE.out _ _ _ (Below.refl _ _)) ⟨rfl, fun e => by omega, fun e => by omega⟩)
            · intro a w1 vs K HJ HK HD HN kk
              have e8 := HK 8 (by decide)
              exact wpo_loadS 38 (.tmp 8) rfl wr.heap.size 0 (by simpa [Act.eval] using e8) #[.int .i64 k, .bool o] _ (HO.out w1 HJ) und_order rfl info_order (kk _ _ (by simp) HJ (EE.out _ _ _ (Below.refl _ _)) ⟨rfl, fun e => by omega, fun e => by omega⟩)
            · intro a w1 vs K HJ HK HD HN kk
              have e33 := (HD 3 _ 33 rfl rfl rfl).1.trans (HD 3 _ 33 rfl rfl rfl).2.1
              have e37 := (HD 7 _ 37 rfl rfl rfl).1.trans (HD 7 _ 37 rfl rfl rfl).2.1
              have e38 := (HD 8 _ 38 rfl rfl rfl).1.trans (HD 8 _ 38 rfl rfl rfl).2.1
              exact wpo_call 110 _ _ rfl #[.agg (plantA X.pv p), .agg (spotsA r.at_), .agg #[.int .i64 k, .bool o]] (by simp [Act.eval, e33, e37, e38]) (fun args w => by kernel_rfl)
                ((HC.out w1 HJ).mono fun e w' ⟨he, hb⟩ => ⟨_, he, kk _ _ (by simp) (Below.trans HJ (hb.mono HJ.size)) (EE.out _ _ _ hb) ⟨rfl, fun e => by omega, fun e => by omega⟩⟩)
            · intro a w1 vs K HJ HK HD HN kk
              have e39 := (HD 9 _ 39 rfl rfl rfl).1.trans (HD 9 _ 39 rfl rfl rfl).2.1
              go_simp; exact kk _ _ (by simp) HJ (EE.out _ _ _ (Below.refl _ _)) ⟨rfl, fun e => by omega, fun e => by omega⟩
            · intro a w1 vs K HJ HK HD HN kk
              have e29 := (HD 10 _ 29 rfl rfl rfl).1.trans (HD 10 _ 29 rfl rfl rfl).2.1
              go_simp; exact kk _ _ (by simp) HJ (EE.out _ _ _ (Below.refl _ _)) ⟨rfl, fun e => by omega, fun e => by omega⟩
            · intro a w1 vs K HJ HK HD HN kk
              have e29 := (HD 10 _ 29 rfl rfl rfl).1.trans (HD 10 _ 29 rfl rfl rfl).2.1
              go_simp; exact kk _ _ (by simp) HJ (EE.out _ _ _ (Below.refl _ _)) ⟨rfl, fun e => by omega, fun e => by omega⟩
            · intro a w1 vs K HJ HK HD HN kk
              go_simp
              refine kk _ _ (by simp) (HJ.alloc HJ.size _) (EE.out _ _ _ ((Below.refl _ _).alloc (Nat.le_refl _) _)) ⟨trivial, fun _ => ⟨_, rfl, HJ.size, _, spotsA_size zeroS, Bk.new _ _ (spotsA zeroS)⟩, fun e => by omega⟩
            · intro a w1 vs K HJ HK HD HN kk
              have e40 := (HD 11 _ 40 rfl rfl rfl).1.trans (HD 11 _ 40 rfl rfl rfl).2.1
              obtain ⟨e13, r13⟩ := HD 13 _ 9 rfl rfl rfl
              obtain ⟨g', q1, q2, cs, q3, q4⟩ := r13.2.1 rfl
              refine wpo_storeS 105 (.tmp 9) (.tmp 40) rfl rfl g' 0 (by simpa [Act.eval] using e13.trans q1) (spotsA nx) (by simpa [Act.eval] using e40) _ cs q4 (by rw [spotsA_size, q3]; omega) (spotsA_one _) (info_spots_s _) ?_
              intro w2 hk2 ho2
              rw [splA_all _ _ (by rw [spotsA_size, q3])] at hk2
              refine kk _ _ (by simp) (HJ.trans (ho2.below q2)) ⟨fun h => absurd rfl h, fun g2 cs' h1 h2 => ?_⟩ ⟨trivial, fun e => by omega, fun _ => ⟨g', q1, q2, hk2⟩⟩
              by_cases e : g2 = g'
              · subst e; exact ⟨_, spotsA_size _, hk2⟩
              · exact ⟨cs', h1, h2.only ho2 e⟩
            · intro a w1 vs K HJ HK HD HN kk
              have e41 := (HD 12 _ 41 rfl rfl rfl).1.trans (HD 12 _ 41 rfl rfl rfl).2.1
              go_simp; exact kk _ _ (by simp) HJ (EE.out _ _ _ (Below.refl _ _)) ⟨rfl, fun e => by omega, fun e => by omega⟩
          intro vs wb hwb hrr
          have h15 : vs 15 = _ := (hrr 15 _ rfl).1
          obtain ⟨gn, h13, hg1, hg2⟩ := (hrr 14 _ rfl).2.2 rfl
          have h13' : vs 13 = .pointer (some ⟨gn, 0, none⟩) := h13
          clear hrr h13 HPl HR HO HC EE
          simp only [putAll, Act.put, h15, h13']
          clear h15 h13'
          have hbwb : Below wr.heap.size wr wb := HBW.out.trans (hwb.mono (by rw [HWS.out]; omega))
          have hob := HOB.out.below hwb HOB.out.lt
          have HIb := Lib.hid (HIn.out.below hbwb)
          have HFb := Lib.hid (Fr.of_below (B := B) hbwb HIn.out.1.lt)
          have HB2 := Lib.hid (HBB0.out.below hbwb HBB0.out.lt)
          have HOb := Lib.hid hob
          have HBB : Hid (B ≤ wb.heap.size) := Lib.hid HIb.out.1.lt
          clear hwb hbwb hob HOB HBW HWS HBB0 hg1
          have HNX : Hid (∀ w1, Below wb.heap.size wb w1 → ∀ j u, (spotsA nx)[j]? = some u → w1.cell? ⟨gn, 0 + j, none⟩ = some u) := Lib.hid fun w1 hw1 j u hj => by rw [Nat.zero_add]; exact ((hg2.below hw1 hg2.lt).cell j).trans hj
          have HR := Lib.hid fun (w1 : World) (hw1 : Below wb.heap.size wb w1) => ((HR0.out.fr HIb.out.2.1).fr (Fr.of_below hw1 HBB.out)).load
          have hnok : SpotsOk p nx := by rw [HNX0.out]; exact wantB_ok HSO.out hkp o
          have HNK := Lib.hid hnok
          clear hg2 hnok HIn
          cases hok : safeB p nx with
          | false =>
            have HT : Hid (try1S p g r k o s1 = (true, s1)) := Lib.hid (by unfold try1S; rw [← HNX0.out, hok]; rfl)
            clear hok
            go_simp
            go_wp2_with fail
            refine wp_region_steps (by kernel_rfl) (by kernel_rfl) (fun w1 => Below wb.heap.size wb w1) (fun _ _ _ => True)
              (fun ix u _ _ => match ix with
                | 0 => u = .bool false
                | 1 => u = .bool false
                | 2 => u = undef
                | 3 => u = undef
                | 4 => u = undef
                | 5 => u = undef
                | 6 => u = undef
                | 7 => u = undef
                | 8 => u = .bool false
                | 9 => u = .bool false
                | 10 => u = undef
                | 11 => u = undef
                | 12 => u = undef
                | 13 => u = undef
                | 14 => u = undef
                | 15 => u = undef
                | 16 => u = undef
                | _ => u = .bool false) (Below.refl _ _).drew (fun _ _ _ _ _ _ _ _ h _ _ => h) ?_ ?_
            · refine ⟨?_, ?_, ?_, ?_, ?_, ?_, ?_, ?_, ?_, ?_, ?_, ?_, ?_, ?_, ?_, ?_, ?_, ?_, trivial⟩
              · intro a w1 vs K HJ HK HD HN k
                have e10 := HK 10 (by decide)
                go_simp; exact k _ _ (by simp) HJ trivial rfl
              · intro a w1 vs K HJ HK HD HN k
                have e42 := (HD 0 _ 42 rfl rfl rfl).1.trans (HD 0 _ 42 rfl rfl rfl).2
                go_simp; exact k _ _ (by simp) HJ trivial rfl
              · intro a w1 vs K HJ HK HD HN k
                have e43 := (HD 1 _ 43 rfl rfl rfl).1.trans (HD 1 _ 43 rfl rfl rfl).2
                rw [if_neg (wanted_no 1 true rfl rfl rfl e43)]
                exact k undef _ (by simp) HJ trivial rfl
              · intro a w1 vs K HJ HK HD HN k
                have e43 := (HD 1 _ 43 rfl rfl rfl).1.trans (HD 1 _ 43 rfl rfl rfl).2
                rw [if_neg (wanted_no 1 true rfl rfl rfl e43)]
                exact k undef _ (by simp) HJ trivial rfl
              · intro a w1 vs K HJ HK HD HN k
                have e43 := (HD 1 _ 43 rfl rfl rfl).1.trans (HD 1 _ 43 rfl rfl rfl).2
                rw [if_neg (wanted_no 1 true rfl rfl rfl e43)]
                exact k undef _ (by simp) HJ trivial rfl
              · intro a w1 vs K HJ HK HD HN k
                have e43 := (HD 1 _ 43 rfl rfl rfl).1.trans (HD 1 _ 43 rfl rfl rfl).2
                rw [if_neg (wanted_no 1 true rfl rfl rfl e43)]
                exact k undef _ (by simp) HJ trivial rfl
              · intro a w1 vs K HJ HK HD HN k
                have e43 := (HD 1 _ 43 rfl rfl rfl).1.trans (HD 1 _ 43 rfl rfl rfl).2
                rw [if_neg (wanted_no 1 true rfl rfl rfl e43)]
                exact k undef _ (by simp) HJ trivial rfl
              · intro a w1 vs K HJ HK HD HN k
                have e43 := (HD 1 _ 43 rfl rfl rfl).1.trans (HD 1 _ 43 rfl rfl rfl).2
                rw [if_neg (wanted_no 1 true rfl rfl rfl e43)]
                exact k undef _ (by simp) HJ trivial rfl
              · intro a w1 vs K HJ HK HD HN k
                have e43 := (HD 1 _ 43 rfl rfl rfl).1.trans (HD 1 _ 43 rfl rfl rfl).2
                have e49 := (HD 7 _ 49 rfl rfl rfl).1.trans (HD 7 _ 49 rfl rfl rfl).2
                go_simp; exact k _ _ (by simp) HJ trivial rfl
              · intro a w1 vs K HJ HK HD HN k
                have e50 := (HD 8 _ 50 rfl rfl rfl).1.trans (HD 8 _ 50 rfl rfl rfl).2
                go_simp; exact k _ _ (by simp) HJ trivial rfl
              · intro a w1 vs K HJ HK HD HN k
                have e51 := (HD 9 _ 51 rfl rfl rfl).1.trans (HD 9 _ 51 rfl rfl rfl).2
                rw [if_neg (wanted_no 9 true rfl rfl rfl e51)]
                exact k undef _ (by simp) HJ trivial rfl
              · intro a w1 vs K HJ HK HD HN k
                have e51 := (HD 9 _ 51 rfl rfl rfl).1.trans (HD 9 _ 51 rfl rfl rfl).2
                rw [if_neg (wanted_no 9 true rfl rfl rfl e51)]
                exact k undef _ (by simp) HJ trivial rfl
              · intro a w1 vs K HJ HK HD HN k
                have e51 := (HD 9 _ 51 rfl rfl rfl).1.trans (HD 9 _ 51 rfl rfl rfl).2
                rw [if_neg (wanted_no 9 true rfl rfl rfl e51)]
                exact k undef _ (by simp) HJ trivial rfl
              · intro a w1 vs K HJ HK HD HN k
                have e51 := (HD 9 _ 51 rfl rfl rfl).1.trans (HD 9 _ 51 rfl rfl rfl).2
                rw [if_neg (wanted_no 9 true rfl rfl rfl e51)]
                exact k undef _ (by simp) HJ trivial rfl
              · intro a w1 vs K HJ HK HD HN k
                have e51 := (HD 9 _ 51 rfl rfl rfl).1.trans (HD 9 _ 51 rfl rfl rfl).2
                rw [if_neg (wanted_no 9 true rfl rfl rfl e51)]
                exact k undef _ (by simp) HJ trivial rfl
              · intro a w1 vs K HJ HK HD HN k
                have e51 := (HD 9 _ 51 rfl rfl rfl).1.trans (HD 9 _ 51 rfl rfl rfl).2
                rw [if_neg (wanted_no 9 true rfl rfl rfl e51)]
                exact k undef _ (by simp) HJ trivial rfl
              · intro a w1 vs K HJ HK HD HN k
                have e51 := (HD 9 _ 51 rfl rfl rfl).1.trans (HD 9 _ 51 rfl rfl rfl).2
                rw [if_neg (wanted_no 9 true rfl rfl rfl e51)]
                exact k undef _ (by simp) HJ trivial rfl
              · intro a w1 vs K HJ HK HD HN k
                have e51 := (HD 9 _ 51 rfl rfl rfl).1.trans (HD 9 _ 51 rfl rfl rfl).2
                have e58 := (HD 16 _ 58 rfl rfl rfl).1.trans (HD 16 _ 58 rfl rfl rfl).2
                go_simp; exact k _ _ (by simp) HJ trivial rfl
            intro vs w2 hw2 hrr
            have h17 : vs 17 = _ := hrr 17 _ rfl
            have HI3 := Lib.hid (HIb.out.next hkp hm2 HO1.out HT.out (HIb.out.1.below hw2) (Fr.of_below hw2 HBB.out))
            have HB3 := Lib.hid (HB2.out.below hw2 HB2.out.lt)
            clear hrr HNX HR hw2 HIb HB2 HOb
            simp only [putAll, Act.put, h17]
            go_simp
            go_wp2_with fail
            go_roundw
            case rel => exact ⟨m + 1, by omega, by go_num, Lib.hid ⟨s1, HI3.out, HB3.out⟩⟩
            case measure => simp [intOf]; omega
          | true =>
            cases hsame : sameSp nx r.at_ with
            | true =>
              have HNE : Hid (∀ w1, (binOp .neq 105 (.agg (spotsA nx)) (.agg (spotsA r.at_))).run Tryz.prog w1 = .ok (.bool false) w1) := Lib.hid fun w1 => by have := run_neq_spots nx r.at_ (HNK.out.places hv) HP.out w1; rw [hsame] at this; exact this
              have HT : Hid (try1S p g r k o s1 = (true, s1)) := Lib.hid (by unfold try1S; rw [← HNX0.out, hok, hsame]; rfl)
              clear hok hsame
              go_simp
              go_wp2_with fail
              refine wp_region_steps (by kernel_rfl) (by kernel_rfl) (fun w1 => Below wb.heap.size wb w1) (fun _ _ _ => True)
                (fun ix u _ _ => match ix with
                  | 0 => u = .bool true
                  | 1 => u = .bool true
                  | 2 => u = .agg (spotsA nx)
                  | 3 => u = .pointer (some ⟨b, 0, none⟩)
                  | 4 => u = .pointer (some ⟨b, 0, none⟩)
                  | 5 => u = .pointer (some ⟨b, 0, none⟩)
                  | 6 => u = .agg (spotsA r.at_)
                  | 7 => u = .bool false
                  | 8 => u = .bool false
                  | 9 => u = .bool false
                  | 10 => u = undef
                  | 11 => u = undef
                  | 12 => u = undef
                  | 13 => u = undef
                  | 14 => u = undef
                  | 15 => u = undef
                  | 16 => u = undef
                  | _ => u = .bool false) (Below.refl _ _).drew (fun _ _ _ _ _ _ _ _ h _ _ => h) ?_ ?_
              · refine ⟨?_, ?_, ?_, ?_, ?_, ?_, ?_, ?_, ?_, ?_, ?_, ?_, ?_, ?_, ?_, ?_, ?_, ?_, trivial⟩
                · intro a w1 vs K HJ HK HD HN k
                  have e10 := HK 10 (by decide)
                  go_simp; exact k _ _ (by simp) HJ trivial rfl
                · intro a w1 vs K HJ HK HD HN k
                  have e42 := (HD 0 _ 42 rfl rfl rfl).1.trans (HD 0 _ 42 rfl rfl rfl).2
                  go_simp; exact k _ _ (by simp) HJ trivial rfl
                · intro a w1 vs K HJ HK HD HN k
                  have e43 := (HD 1 _ 43 rfl rfl rfl).1.trans (HD 1 _ 43 rfl rfl rfl).2
                  rw [if_pos (wanted_yes 1 true rfl rfl rfl e43)]
                  have e9 := HK 9 (by decide)
                  exact wpo_loadS 105 (.tmp 9) rfl gn 0 (by simpa [Act.eval] using e9) (spotsA nx) _ (HNX.out w1 HJ) und_spots rfl (info_spots_s _) (k _ _ (by simp) HJ trivial rfl)
                · intro a w1 vs K HJ HK HD HN k
                  have e43 := (HD 1 _ 43 rfl rfl rfl).1.trans (HD 1 _ 43 rfl rfl rfl).2
                  rw [if_pos (wanted_yes 1 true rfl rfl rfl e43)]
                  have e1 := HK 1 (by decide)
                  go_simp; exact k _ _ (by simp) HJ trivial rfl
                · intro a w1 vs K HJ HK HD HN k
                  have e43 := (HD 1 _ 43 rfl rfl rfl).1.trans (HD 1 _ 43 rfl rfl rfl).2
                  rw [if_pos (wanted_yes 1 true rfl rfl rfl e43)]
                  have e45 := (HD 3 _ 45 rfl rfl rfl).1.trans (HD 3 _ 45 rfl rfl rfl).2
                  go_simp; exact k _ _ (by simp) HJ trivial rfl
                · intro a w1 vs K HJ HK HD HN k
                  have e43 := (HD 1 _ 43 rfl rfl rfl).1.trans (HD 1 _ 43 rfl rfl rfl).2
                  rw [if_pos (wanted_yes 1 true rfl rfl rfl e43)]
                  have e46 := (HD 4 _ 46 rfl rfl rfl).1.trans (HD 4 _ 46 rfl rfl rfl).2
                  go_simp; exact k _ _ (by simp) HJ trivial rfl
                · intro a w1 vs K HJ HK HD HN k
                  have e43 := (HD 1 _ 43 rfl rfl rfl).1.trans (HD 1 _ 43 rfl rfl rfl).2
                  rw [if_pos (wanted_yes 1 true rfl rfl rfl e43)]
                  have e47 := (HD 5 _ 47 rfl rfl rfl).1.trans (HD 5 _ 47 rfl rfl rfl).2
                  exact wpo_loadS 105 (.tmp 47) rfl b 0 (by simpa [Act.eval] using e47) (spotsA r.at_) _ (HR.out w1 HJ) und_spots rfl (info_spots_s _) (k _ _ (by simp) HJ trivial rfl)
                · intro a w1 vs K HJ HK HD HN k
                  have e43 := (HD 1 _ 43 rfl rfl rfl).1.trans (HD 1 _ 43 rfl rfl rfl).2
                  rw [if_pos (wanted_yes 1 true rfl rfl rfl e43)]
                  have e44 := (HD 2 _ 44 rfl rfl rfl).1.trans (HD 2 _ 44 rfl rfl rfl).2
                  have e48 := (HD 6 _ 48 rfl rfl rfl).1.trans (HD 6 _ 48 rfl rfl rfl).2
                  exact wpo_neqS 105 _ (.tmp 44) (.tmp 48) rfl _ _ (by simpa [Act.eval] using e44) (by simpa [Act.eval] using e48) guardSpots _ (HNE.out w1) (k _ _ (by simp) HJ trivial rfl)
                · intro a w1 vs K HJ HK HD HN k
                  have e43 := (HD 1 _ 43 rfl rfl rfl).1.trans (HD 1 _ 43 rfl rfl rfl).2
                  have e49 := (HD 7 _ 49 rfl rfl rfl).1.trans (HD 7 _ 49 rfl rfl rfl).2
                  go_simp; exact k _ _ (by simp) HJ trivial rfl
                · intro a w1 vs K HJ HK HD HN k
                  have e50 := (HD 8 _ 50 rfl rfl rfl).1.trans (HD 8 _ 50 rfl rfl rfl).2
                  go_simp; exact k _ _ (by simp) HJ trivial rfl
                · intro a w1 vs K HJ HK HD HN k
                  have e51 := (HD 9 _ 51 rfl rfl rfl).1.trans (HD 9 _ 51 rfl rfl rfl).2
                  rw [if_neg (wanted_no 9 true rfl rfl rfl e51)]
                  exact k undef _ (by simp) HJ trivial rfl
                · intro a w1 vs K HJ HK HD HN k
                  have e51 := (HD 9 _ 51 rfl rfl rfl).1.trans (HD 9 _ 51 rfl rfl rfl).2
                  rw [if_neg (wanted_no 9 true rfl rfl rfl e51)]
                  exact k undef _ (by simp) HJ trivial rfl
                · intro a w1 vs K HJ HK HD HN k
                  have e51 := (HD 9 _ 51 rfl rfl rfl).1.trans (HD 9 _ 51 rfl rfl rfl).2
                  rw [if_neg (wanted_no 9 true rfl rfl rfl e51)]
                  exact k undef _ (by simp) HJ trivial rfl
                · intro a w1 vs K HJ HK HD HN k
                  have e51 := (HD 9 _ 51 rfl rfl rfl).1.trans (HD 9 _ 51 rfl rfl rfl).2
                  rw [if_neg (wanted_no 9 true rfl rfl rfl e51)]
                  exact k undef _ (by simp) HJ trivial rfl
                · intro a w1 vs K HJ HK HD HN k
                  have e51 := (HD 9 _ 51 rfl rfl rfl).1.trans (HD 9 _ 51 rfl rfl rfl).2
                  rw [if_neg (wanted_no 9 true rfl rfl rfl e51)]
                  exact k undef _ (by simp) HJ trivial rfl
                · intro a w1 vs K HJ HK HD HN k
                  have e51 := (HD 9 _ 51 rfl rfl rfl).1.trans (HD 9 _ 51 rfl rfl rfl).2
                  rw [if_neg (wanted_no 9 true rfl rfl rfl e51)]
                  exact k undef _ (by simp) HJ trivial rfl
                · intro a w1 vs K HJ HK HD HN k
                  have e51 := (HD 9 _ 51 rfl rfl rfl).1.trans (HD 9 _ 51 rfl rfl rfl).2
                  rw [if_neg (wanted_no 9 true rfl rfl rfl e51)]
                  exact k undef _ (by simp) HJ trivial rfl
                · intro a w1 vs K HJ HK HD HN k
                  have e51 := (HD 9 _ 51 rfl rfl rfl).1.trans (HD 9 _ 51 rfl rfl rfl).2
                  have e58 := (HD 16 _ 58 rfl rfl rfl).1.trans (HD 16 _ 58 rfl rfl rfl).2
                  go_simp; exact k _ _ (by simp) HJ trivial rfl
              intro vs w2 hw2 hrr
              have h17 : vs 17 = _ := hrr 17 _ rfl
              have HI3 := Lib.hid (HIb.out.next hkp hm2 HO1.out HT.out (HIb.out.1.below hw2) (Fr.of_below hw2 HBB.out))
              have HB3 := Lib.hid (HB2.out.below hw2 HB2.out.lt)
              clear hrr HNX HR hw2 HIb HB2 HOb
              simp only [putAll, Act.put, h17]
              go_simp
              go_wp2_with fail
              go_roundw
              case rel => exact ⟨m + 1, by omega, by go_num, Lib.hid ⟨s1, HI3.out, HB3.out⟩⟩
              case measure => simp [intOf]; omega
            | false =>
              have HNE : Hid (∀ w1, (binOp .neq 105 (.agg (spotsA nx)) (.agg (spotsA r.at_))).run Tryz.prog w1 = .ok (.bool true) w1) := Lib.hid fun w1 => by have := run_neq_spots nx r.at_ (HNK.out.places hv) HP.out w1; rw [hsame] at this; exact this
              obtain ⟨nr, hnr⟩ : ∃ nr, nr = RowC.step nx r (some ⟨k, o⟩) := ⟨_, rfl⟩
              have HT : Hid (try1S p g r k o s1 = reachS p g s1 nr) := Lib.hid (by unfold try1S; rw [← HNX0.out, hok, hsame, hnr]; rfl)
              have HRE : Hid (∀ w1, Below wb.heap.size wb w1 → ∀ nb, Bk w1 nb 140 (rowA nx (.pointer (some ⟨b, 0, none⟩)) (.pointer (some ⟨wr.heap.size, 0, none⟩))) →
                  Calls Tryz.prog 48 #[.pointer (some ⟨X.sb, 0, none⟩), .pointer (some ⟨nb, 0, none⟩)] w1 fun e w' => e = .returned (.bool (reachS p g s1 nr).1) ∧ SrIn w' B X p g (reachS p g s1 nr).2 ∧ Fr B w1 w') := Lib.hid fun w1 hw1 nb hnb => by
                refine reach_any w1 B X p g s1 (HIb.out.1.below hw1) hv hG nr nb ?_ ?_
                · rw [hnr]
                  exact ⟨b, wr.heap.size, (HR0.out.fr HIb.out.2.1).fr (Fr.of_below hw1 HBB.out), HOb.out.below hw1 HOb.out.lt, hnb⟩
                · rw [hnr]; exact HNK.out
              clear hok hsame hnr
              go_simp
              go_wp2_with fail
              refine wp_region_stepsJ (by kernel_rfl) (by kernel_rfl) (fun dn _ w1 => if dn 15 = true then SrIn w1 B X p g (reachS p g s1 nr).2 ∧ Fr B wb w1 else Below wb.heap.size wb w1) (fun _ w1 w2 => Fr B w1 w2)
                (fun ix u d w1 => (match ix with
                  | 0 => u = .bool true
                  | 1 => u = .bool true
                  | 2 => u = .agg (spotsA nx)
                  | 3 => u = .pointer (some ⟨b, 0, none⟩)
                  | 4 => u = .pointer (some ⟨b, 0, none⟩)
                  | 5 => u = .pointer (some ⟨b, 0, none⟩)
                  | 6 => u = .agg (spotsA r.at_)
                  | 7 => u = .bool true
                  | 8 => u = .bool true
                  | 9 => u = .bool true
                  | 10 => u = .pointer (some ⟨X.sb, 0, none⟩)
                  | 11 => u = .agg (spotsA nx)
                  | 12 => u = .pointer (some ⟨b, 0, none⟩)
                  | 13 => u = .agg (rowA nx (.pointer (some ⟨b, 0, none⟩)) (.pointer (some ⟨wr.heap.size, 0, none⟩)))
                  | 14 => True
                  | 15 => u = .bool (reachS p g s1 nr).1
                  | 16 => u = .bool (!(reachS p g s1 nr).1)
                  | _ => u = .bool (!(reachS p g s1 nr).1)) ∧ (ix = 14 → ∃ nb, u = .pointer (some ⟨nb, 0, none⟩) ∧ Bk w1 nb 140 (rowA nx (.pointer (some ⟨b, 0, none⟩)) (.pointer (some ⟨wr.heap.size, 0, none⟩))))) (fun _ => (Below.refl _ _).drew) (by rintro i j hij _ u d w1 w2 ⟨hr1, hr2⟩ hE; exact ⟨hr1, fun e => (by obtain ⟨nb, e1, e2⟩ := hr2 e; exact ⟨nb, e1, hE.keep _ _ _ (by decide) (by decide) e2⟩)⟩) ?_ ?_
              · refine ⟨?_, ?_, ?_, ?_, ?_, ?_, ?_, ?_, ?_, ?_, ?_, ?_, ?_, ?_, ?_, ?_, ?_, ?_, trivial⟩
                · intro a w1 vs K dn Hd Hb HJ HK HD HN k
                  have e10 := HK 10 (by decide)
                  go_simp; exact k _ _ (by simp) HJ (Fr.refl _ _) ⟨rfl, fun e => by omega⟩
                · intro a w1 vs K dn Hd Hb HJ HK HD HN k
                  have e42 := (HD 0 _ 42 rfl rfl rfl).1.trans (HD 0 _ 42 rfl rfl rfl).2.1
                  go_simp; exact k _ _ (by simp) HJ (Fr.refl _ _) ⟨rfl, fun e => by omega⟩
                · intro a w1 vs K dn Hd Hb HJ HK HD HN k
                  have e43 := (HD 1 _ 43 rfl rfl rfl).1.trans (HD 1 _ 43 rfl rfl rfl).2.1
                  rw [if_pos (wanted_yes 1 true rfl rfl rfl e43)]
                  have e9 := HK 9 (by decide)
                  have d15 : dn 15 = false := by cases hq : dn 15 with | false => rfl | true => exact absurd (Hd 15 hq).2 (by decide)
                  have HJ' : Below wb.heap.size wb w1 := by simpa [d15] using HJ
                  exact wpo_loadS 105 (.tmp 9) rfl gn 0 (by simpa [Act.eval] using e9) (spotsA nx) _ (HNX.out w1 HJ') und_spots rfl (info_spots_s _) (k _ _ (by simp) HJ (Fr.refl _ _) ⟨rfl, fun e => by omega⟩)
                · intro a w1 vs K dn Hd Hb HJ HK HD HN k
                  have e43 := (HD 1 _ 43 rfl rfl rfl).1.trans (HD 1 _ 43 rfl rfl rfl).2.1
                  rw [if_pos (wanted_yes 1 true rfl rfl rfl e43)]
                  have e1 := HK 1 (by decide)
                  go_simp; exact k _ _ (by simp) HJ (Fr.refl _ _) ⟨rfl, fun e => by omega⟩
                · intro a w1 vs K dn Hd Hb HJ HK HD HN k
                  have e43 := (HD 1 _ 43 rfl rfl rfl).1.trans (HD 1 _ 43 rfl rfl rfl).2.1
                  rw [if_pos (wanted_yes 1 true rfl rfl rfl e43)]
                  have e45 := (HD 3 _ 45 rfl rfl rfl).1.trans (HD 3 _ 45 rfl rfl rfl).2.1
                  go_simp; exact k _ _ (by simp) HJ (Fr.refl _ _) ⟨rfl, fun e => by omega⟩
                · intro a w1 vs K dn Hd Hb HJ HK HD HN k
                  have e43 := (HD 1 _ 43 rfl rfl rfl).1.trans (HD 1 _ 43 rfl rfl rfl).2.1
                  rw [if_pos (wanted_yes 1 true rfl rfl rfl e43)]
                  have e46 := (HD 4 _ 46 rfl rfl rfl).1.trans (HD 4 _ 46 rfl rfl rfl).2.1
                  go_simp; exact k _ _ (by simp) HJ (Fr.refl _ _) ⟨rfl, fun e => by omega⟩
                · intro a w1 vs K dn Hd Hb HJ HK HD HN k
                  have e43 := (HD 1 _ 43 rfl rfl rfl).1.trans (HD 1 _ 43 rfl rfl rfl).2.1
                  rw [if_pos (wanted_yes 1 true rfl rfl rfl e43)]
                  have e47 := (HD 5 _ 47 rfl rfl rfl).1.trans (HD 5 _ 47 rfl rfl rfl).2.1
                  have d15 : dn 15 = false := by cases hq : dn 15 with | false => rfl | true => exact absurd (Hd 15 hq).2 (by decide)
                  have HJ' : Below wb.heap.size wb w1 := by simpa [d15] using HJ
                  exact wpo_loadS 105 (.tmp 47) rfl b 0 (by simpa [Act.eval] using e47) (spotsA r.at_) _ (HR.out w1 HJ') und_spots rfl (info_spots_s _) (k _ _ (by simp) HJ (Fr.refl _ _) ⟨rfl, fun e => by omega⟩)
                · intro a w1 vs K dn Hd Hb HJ HK HD HN k
                  have e43 := (HD 1 _ 43 rfl rfl rfl).1.trans (HD 1 _ 43 rfl rfl rfl).2.1
                  rw [if_pos (wanted_yes 1 true rfl rfl rfl e43)]
                  have e44 := (HD 2 _ 44 rfl rfl rfl).1.trans (HD 2 _ 44 rfl rfl rfl).2.1
                  have e48 := (HD 6 _ 48 rfl rfl rfl).1.trans (HD 6 _ 48 rfl rfl rfl).2.1
                  exact wpo_neqS 105 _ (.tmp 44) (.tmp 48) rfl _ _ (by simpa [Act.eval] using e44) (by simpa [Act.eval] using e48) guardSpots _ (HNE.out w1) (k _ _ (by simp) HJ (Fr.refl _ _) ⟨rfl, fun e => by omega⟩)
                · intro a w1 vs K dn Hd Hb HJ HK HD HN k
                  have e43 := (HD 1 _ 43 rfl rfl rfl).1.trans (HD 1 _ 43 rfl rfl rfl).2.1
                  have e49 := (HD 7 _ 49 rfl rfl rfl).1.trans (HD 7 _ 49 rfl rfl rfl).2.1
                  go_simp; exact k _ _ (by simp) HJ (Fr.refl _ _) ⟨rfl, fun e => by omega⟩
                · intro a w1 vs K dn Hd Hb HJ HK HD HN k
                  have e50 := (HD 8 _ 50 rfl rfl rfl).1.trans (HD 8 _ 50 rfl rfl rfl).2.1
                  go_simp; exact k _ _ (by simp) HJ (Fr.refl _ _) ⟨rfl, fun e => by omega⟩
                · intro a w1 vs K dn Hd Hb HJ HK HD HN k
                  have e51 := (HD 9 _ 51 rfl rfl rfl).1.trans (HD 9 _ 51 rfl rfl rfl).2.1
                  rw [if_pos (wanted_yes 9 true rfl rfl rfl e51)]
                  have e0 := HK 0 (by decide)
                  go_simp; exact k _ _ (by simp) HJ (Fr.refl _ _) ⟨rfl, fun e => by omega⟩
                · intro a w1 vs K dn Hd Hb HJ HK HD HN k
                  have e51 := (HD 9 _ 51 rfl rfl rfl).1.trans (HD 9 _ 51 rfl rfl rfl).2.1
                  rw [if_pos (wanted_yes 9 true rfl rfl rfl e51)]
                  have e9 := HK 9 (by decide)
                  have d15 : dn 15 = false := by cases hq : dn 15 with | false => rfl | true => exact absurd (Hd 15 hq).2 (by decide)
                  have HJ' : Below wb.heap.size wb w1 := by simpa [d15] using HJ
                  exact wpo_loadS 105 (.tmp 9) rfl gn 0 (by simpa [Act.eval] using e9) (spotsA nx) _ (HNX.out w1 HJ') und_spots rfl (info_spots_s _) (k _ _ (by simp) HJ (Fr.refl _ _) ⟨rfl, fun e => by omega⟩)
                · intro a w1 vs K dn Hd Hb HJ HK HD HN k
                  have e51 := (HD 9 _ 51 rfl rfl rfl).1.trans (HD 9 _ 51 rfl rfl rfl).2.1
                  rw [if_pos (wanted_yes 9 true rfl rfl rfl e51)]
                  have e1 := HK 1 (by decide)
                  go_simp; exact k _ _ (by simp) HJ (Fr.refl _ _) ⟨rfl, fun e => by omega⟩
                · intro a w1 vs K dn Hd Hb HJ HK HD HN k
                  have e51 := (HD 9 _ 51 rfl rfl rfl).1.trans (HD 9 _ 51 rfl rfl rfl).2.1
                  rw [if_pos (wanted_yes 9 true rfl rfl rfl e51)]
                  have e53 := (HD 11 _ 53 rfl rfl rfl).1.trans (HD 11 _ 53 rfl rfl rfl).2.1
                  have e54 := (HD 12 _ 54 rfl rfl rfl).1.trans (HD 12 _ 54 rfl rfl rfl).2.1
                  have e8 := HK 8 (by decide)
                  have hev : (Array.map (fun (i, x) => (i, a.eval x)) #[(0, Operand.tmp 53), (1, .tmp 54), (2, .tmp 8)]).toList = [(0, .agg (spotsA nx)), (1, .pointer (some ⟨b, 0, none⟩)), (2, .pointer (some ⟨wr.heap.size, 0, none⟩))] := by simp [Act.eval, e53, e54, e8]
                  refine wp_build 140 _ rfl (by rw [hev, built_row]; rfl) ?_
                  rw [hev, built_row]
                  exact k _ _ (by simp) HJ (Fr.refl _ _) ⟨rfl, fun e => by omega⟩
                · intro a w1 vs K dn Hd Hb HJ HK HD HN k
                  have e51 := (HD 9 _ 51 rfl rfl rfl).1.trans (HD 9 _ 51 rfl rfl rfl).2.1
                  rw [if_pos (wanted_yes 9 true rfl rfl rfl e51)]
                  have e55 := (HD 13 _ 55 rfl rfl rfl).1.trans (HD 13 _ 55 rfl rfl rfl).2.1
                  have d15 : dn 15 = false := by cases hq : dn 15 with | false => rfl | true => exact absurd (Hd 15 hq).2 (by decide)
                  have HJ' : Below wb.heap.size wb w1 := by simpa [d15] using HJ
                  go_simp
                  have hb : ∀ ob, Below w1.heap.size w1 (w1.alloc ob) := fun ob => (Below.refl _ _).alloc (Nat.le_refl _) _
                  exact k _ _ (by simp) (by show (if dn 15 = true then _ else _); rw [d15]; exact HJ'.trans ((hb _).mono HJ'.size)) (Fr.of_below (hb _) (Nat.le_trans HBB.out HJ'.size)) ⟨trivial, fun _ => ⟨_, rfl, Bk.new _ _ _⟩⟩
                · intro a w1 vs K dn Hd Hb HJ HK HD HN k
                  have e51 := (HD 9 _ 51 rfl rfl rfl).1.trans (HD 9 _ 51 rfl rfl rfl).2.1
                  rw [if_pos (wanted_yes 9 true rfl rfl rfl e51)]
                  have e52 := (HD 10 _ 52 rfl rfl rfl).1.trans (HD 10 _ 52 rfl rfl rfl).2.1
                  have d15 : dn 15 = false := by cases hq : dn 15 with | false => rfl | true => exact absurd rfl (Hd 15 hq).1
                  have HJ' : Below wb.heap.size wb w1 := by simpa [d15] using HJ
                  obtain ⟨e56, r56⟩ := HD 14 _ 56 rfl rfl rfl
                  obtain ⟨nb, q1, q2⟩ := r56.2 rfl
                  refine wpo_call 48 _ _ rfl #[.pointer (some ⟨X.sb, 0, none⟩), .pointer (some ⟨nb, 0, none⟩)] (by simp [Act.eval, e52, e56.trans q1]) (fun args w => by kernel_rfl) ?_
                  refine (HRE.out w1 HJ' nb q2).mono ?_
                  rintro e w' ⟨rfl, hS, hF⟩
                  exact ⟨_, rfl, k _ _ (by simp) (by show (if true = true then _ else _); exact ⟨hS, (Fr.of_below HJ' HBB.out).trans hF⟩) hF ⟨rfl, fun e => by omega⟩⟩
                · intro a w1 vs K dn Hd Hb HJ HK HD HN k
                  have e51 := (HD 9 _ 51 rfl rfl rfl).1.trans (HD 9 _ 51 rfl rfl rfl).2.1
                  rw [if_pos (wanted_yes 9 true rfl rfl rfl e51)]
                  have e57 := (HD 15 _ 57 rfl rfl rfl).1.trans (HD 15 _ 57 rfl rfl rfl).2.1
                  go_simp; exact k _ _ (by simp) HJ (Fr.refl _ _) ⟨rfl, fun e => by omega⟩
                · intro a w1 vs K dn Hd Hb HJ HK HD HN k
                  have e51 := (HD 9 _ 51 rfl rfl rfl).1.trans (HD 9 _ 51 rfl rfl rfl).2.1
                  have e58 := (HD 16 _ 58 rfl rfl rfl).1.trans (HD 16 _ 58 rfl rfl rfl).2.1
                  go_simp; exact k _ _ (by simp) HJ (Fr.refl _ _) ⟨rfl, fun e => by omega⟩
              intro vs dn w2 hall hJ hrr
              rw [if_pos (hall 15 (by decide))] at hJ
              obtain ⟨hS2, hF2⟩ := hJ
              have h17 : vs 17 = _ := (hrr 17 _ rfl).1
              have HS2 := Lib.hid hS2
              have HF2 := Lib.hid hF2
              have HB3 := Lib.hid (hF2.keep _ _ _ (by decide) (by decide) HB2.out)
              clear hrr HNX HR HB2 HOb hS2 hF2 HRE hall
              simp only [putAll, Act.put, h17]
              cases hq : (reachS p g s1 nr).1 with
              | true =>
                have HI3 := Lib.hid (HIb.out.next hkp hm2 HO1.out (HT.out.trans (Prod.ext hq rfl)) HS2.out HF2.out)
                clear hq h17
                go_simp
                go_wp2_with fail
                go_roundw
                case rel => exact ⟨m + 1, by omega, by go_num, Lib.hid ⟨_, HI3.out, HB3.out⟩⟩
                case measure => simp [intOf]; omega
              | false =>
                have HE := Lib.hid (HIb.out.stop hkp hm2 HO1.out (HT.out.trans (Prod.ext hq rfl)))
                have HF3 := Lib.hid (HIb.out.2.1.trans HF2.out)
                clear hq h17
                go_simp
                go_wp2_with fail
                go_ret
                rw [Hf.out, HE.out]
                exact ⟨rfl, HS2.out, HF3.out⟩
        · obtain rfl : m = 2 := by omega
          go_wp2_with fail
          go_roundw
          case rel => exact ⟨k + 1, by omega, by go_num, Lib.hid (by obtain ⟨s1, h1, _⟩ := hI2.out; exact ⟨s1, h1⟩)⟩
          case measure => simp [intOf]; omega
    · obtain rfl : k = n := by omega
      go_wp2_with fail
      obtain ⟨s1, hIn⟩ := hI.out
      obtain ⟨wr, rfl⟩ : ∃ wr : World, wr = wo := ⟨_, rfl⟩
      have hTt : trysS p g r (2 * p.valves.length) 0 st = (true, s1) := hIn.2.2.trans (by rw [← HNN.out, Nat.sub_self]; rfl)
      have HFF : Hid (followS p g r st = reachS p g s1 (.step (movedB p r.at_ fun _ => false) r none)) := Lib.hid (by rw [Hf.out, hTt]; rfl)
      obtain ⟨mv, hmv⟩ : ∃ mv, mv = movedB p r.at_ fun _ => false := ⟨_, rfl⟩
      obtain ⟨nr, hnr⟩ : ∃ nr, nr = RowC.step mv r none := ⟨_, rfl⟩
      rw [← hmv, ← hnr] at HFF
      have HBB : Hid (B ≤ wr.heap.size) := Lib.hid hIn.1.lt
      have HPl := Lib.hid fun (w1 : World) (hw1 : Below wr.heap.size wr w1) => (hIn.1.below hw1).loadPlant
      have HR := Lib.hid fun (w1 : World) (hw1 : Below wr.heap.size wr w1) => ((HR0.out.fr hIn.2.1).fr (Fr.of_below hw1 HBB.out)).load
      have HMV := Lib.hid fun (w1 : World) (hw1 : Below wr.heap.size wr w1) => moved_any w1 X.pv p (hIn.1.below hw1).plant hv r.at_ HSO.out fun _ => false
      rw [← hmv] at HMV
      have HRE : Hid (∀ w1, Below wr.heap.size wr w1 → ∀ nb, Bk w1 nb 140 (rowA mv (.pointer (some ⟨b, 0, none⟩)) (.pointer none)) →
          Calls Tryz.prog 48 #[.pointer (some ⟨X.sb, 0, none⟩), .pointer (some ⟨nb, 0, none⟩)] w1 fun e w' => e = .returned (.bool (reachS p g s1 nr).1) ∧ SrIn w' B X p g (reachS p g s1 nr).2 ∧ Fr B w1 w') := Lib.hid fun w1 hw1 nb hnb => by
        refine reach_any w1 B X p g s1 (hIn.1.below hw1) hv hG nr nb ?_ ?_
        · rw [hnr]
          exact ⟨b, (HR0.out.fr hIn.2.1).fr (Fr.of_below hw1 HBB.out), hnb⟩
        · rw [hnr, hmv]; exact movedB_ok HSO.out _
      have HF1 := Lib.hid hIn.2.1
      clear hTt hmv hnr hIn hI Hf
      refine wp_region_stepsJ (by kernel_rfl) (by kernel_rfl) (fun dn _ w1 => if dn 14 = true then SrIn w1 B X p g (reachS p g s1 nr).2 ∧ Fr B wr w1 else Below wr.heap.size wr w1) (fun _ w1 w2 => Fr B w1 w2)
        (fun ix u d w1 => (match ix with
          | 0 => u = .pointer (some ⟨X.sb, 0, none⟩)
          | 1 => u = .pointer (some ⟨X.sb, 0, none⟩)
          | 2 => u = .pointer (some ⟨X.sb, 0, none⟩)
          | 3 => u = .pointer (some ⟨X.sb, 0, none⟩)
          | 4 => u = .agg (plantA X.pv p)
          | 5 => u = .pointer (some ⟨b, 0, none⟩)
          | 6 => u = .pointer (some ⟨b, 0, none⟩)
          | 7 => u = .pointer (some ⟨b, 0, none⟩)
          | 8 => u = .agg (spotsA r.at_)
          | 9 => u = .agg (stuckA fun _ => false)
          | 10 => u = .agg (spotsA mv)
          | 11 => u = .pointer (some ⟨b, 0, none⟩)
          | 12 => u = .agg (rowA mv (.pointer (some ⟨b, 0, none⟩)) (.pointer none))
          | 13 => True
          | 14 => u = .bool (reachS p g s1 nr).1
          | _ => u = .bool (reachS p g s1 nr).1) ∧ (ix = 13 → ∃ nb, u = .pointer (some ⟨nb, 0, none⟩) ∧ Bk w1 nb 140 (rowA mv (.pointer (some ⟨b, 0, none⟩)) (.pointer none)))) (fun _ => (Below.refl _ _).drew) (by rintro i j hij _ u d w1 w2 ⟨hr1, hr2⟩ hE; exact ⟨hr1, fun e => (by obtain ⟨nb, e1, e2⟩ := hr2 e; exact ⟨nb, e1, hE.keep _ _ _ (by decide) (by decide) e2⟩)⟩) ?_ ?_
      · refine ⟨?_, ?_, ?_, ?_, ?_, ?_, ?_, ?_, ?_, ?_, ?_, ?_, ?_, ?_, ?_, ?_, trivial⟩
        · intro a w1 vs K dn Hd Hb HJ HK HD HN k
          have e0 := HK 0 (by decide)
          go_simp; exact k _ _ (by simp) HJ (Fr.refl _ _) ⟨rfl, fun e => by omega⟩
        · intro a w1 vs K dn Hd Hb HJ HK HD HN k
          have e0 := HK 0 (by decide)
          go_simp; exact k _ _ (by simp) HJ (Fr.refl _ _) ⟨rfl, fun e => by omega⟩
        · intro a w1 vs K dn Hd Hb HJ HK HD HN k
          have e63 := (HD 1 _ 63 rfl rfl rfl).1.trans (HD 1 _ 63 rfl rfl rfl).2.1
          go_simp; exact k _ _ (by simp) HJ (Fr.refl _ _) ⟨rfl, fun e => by omega⟩
        · intro a w1 vs K dn Hd Hb HJ HK HD HN k
          have e64 := (HD 2 _ 64 rfl rfl rfl).1.trans (HD 2 _ 64 rfl rfl rfl).2.1
          go_simp; exact k _ _ (by simp) HJ (Fr.refl _ _) ⟨rfl, fun e => by omega⟩
        · intro a w1 vs K dn Hd Hb HJ HK HD HN k
          have e65 := (HD 3 _ 65 rfl rfl rfl).1.trans (HD 3 _ 65 rfl rfl rfl).2.1
          have d14 : dn 14 = false := by cases hq : dn 14 with | false => rfl | true => exact absurd (Hd 14 hq).2 (by decide)
          have HJ' : Below wr.heap.size wr w1 := by simpa [d14] using HJ
          exact wpo_loadS 27 (.tmp 65) rfl X.sb 0 (by simpa [Act.eval] using e65) (plantA X.pv p) _ (HPl.out w1 HJ') und_plant rfl info_plant (k _ _ (by simp) HJ (Fr.refl _ _) ⟨rfl, fun e => by omega⟩)
        · intro a w1 vs K dn Hd Hb HJ HK HD HN k
          have e1 := HK 1 (by decide)
          go_simp; exact k _ _ (by simp) HJ (Fr.refl _ _) ⟨rfl, fun e => by omega⟩
        · intro a w1 vs K dn Hd Hb HJ HK HD HN k
          have e67 := (HD 5 _ 67 rfl rfl rfl).1.trans (HD 5 _ 67 rfl rfl rfl).2.1
          go_simp; exact k _ _ (by simp) HJ (Fr.refl _ _) ⟨rfl, fun e => by omega⟩
        · intro a w1 vs K dn Hd Hb HJ HK HD HN k
          have e68 := (HD 6 _ 68 rfl rfl rfl).1.trans (HD 6 _ 68 rfl rfl rfl).2.1
          go_simp; exact k _ _ (by simp) HJ (Fr.refl _ _) ⟨rfl, fun e => by omega⟩
        · intro a w1 vs K dn Hd Hb HJ HK HD HN k
          have e69 := (HD 7 _ 69 rfl rfl rfl).1.trans (HD 7 _ 69 rfl rfl rfl).2.1
          have d14 : dn 14 = false := by cases hq : dn 14 with | false => rfl | true => exact absurd (Hd 14 hq).2 (by decide)
          have HJ' : Below wr.heap.size wr w1 := by simpa [d14] using HJ
          exact wpo_loadS 105 (.tmp 69) rfl b 0 (by simpa [Act.eval] using e69) (spotsA r.at_) _ (HR.out w1 HJ') und_spots rfl (info_spots_s _) (k _ _ (by simp) HJ (Fr.refl _ _) ⟨rfl, fun e => by omega⟩)
        · intro a w1 vs K dn Hd Hb HJ HK HD HN k
          have hev : (Array.map (fun (i, x) => (i, a.eval x)) (#[] : Array (Nat × Operand))).toList = [] := by simp
          refine wp_build 106 _ rfl (by rw [hev, built_free]; rfl) ?_
          rw [hev, built_free]
          exact k _ _ (by simp) HJ (Fr.refl _ _) ⟨rfl, fun e => by omega⟩
        · intro a w1 vs K dn Hd Hb HJ HK HD HN k
          have e66 := (HD 4 _ 66 rfl rfl rfl).1.trans (HD 4 _ 66 rfl rfl rfl).2.1
          have e70 := (HD 8 _ 70 rfl rfl rfl).1.trans (HD 8 _ 70 rfl rfl rfl).2.1
          have e71 := (HD 9 _ 71 rfl rfl rfl).1.trans (HD 9 _ 71 rfl rfl rfl).2.1
          have d14 : dn 14 = false := by cases hq : dn 14 with | false => rfl | true => exact absurd (Hd 14 hq).2 (by decide)
          have HJ' : Below wr.heap.size wr w1 := by simpa [d14] using HJ
          exact wpo_call 100 _ _ rfl #[.agg (plantA X.pv p), .agg (spotsA r.at_), .agg (stuckA fun _ => false)] (by simp [Act.eval, e66, e70, e71]) (fun args w => by kernel_rfl)
            ((HMV.out w1 HJ').mono fun e w' ⟨he, hb⟩ => ⟨_, he, k _ _ (by simp) (by show (if dn 14 = true then _ else _); rw [d14]; exact HJ'.trans (hb.mono HJ'.size)) (Fr.of_below hb (Nat.le_trans HBB.out HJ'.size)) ⟨rfl, fun e => by omega⟩⟩)
        · intro a w1 vs K dn Hd Hb HJ HK HD HN k
          have e1 := HK 1 (by decide)
          go_simp; exact k _ _ (by simp) HJ (Fr.refl _ _) ⟨rfl, fun e => by omega⟩
        · intro a w1 vs K dn Hd Hb HJ HK HD HN k
          have e72 := (HD 10 _ 72 rfl rfl rfl).1.trans (HD 10 _ 72 rfl rfl rfl).2.1
          have e73 := (HD 11 _ 73 rfl rfl rfl).1.trans (HD 11 _ 73 rfl rfl rfl).2.1
          have hev : (Array.map (fun (i, x) => (i, a.eval x)) #[(0, Operand.tmp 72), (1, .tmp 73), (2, Operand.const (Value.pointer none))]).toList = [(0, .agg (spotsA mv)), (1, .pointer (some ⟨b, 0, none⟩)), (2, .pointer none)] := by simp [Act.eval, e72, e73]
          refine wp_build 140 _ rfl (by rw [hev, built_row]; rfl) ?_
          rw [hev, built_row]
          exact k _ _ (by simp) HJ (Fr.refl _ _) ⟨rfl, fun e => by omega⟩
        · intro a w1 vs K dn Hd Hb HJ HK HD HN k
          have e74 := (HD 12 _ 74 rfl rfl rfl).1.trans (HD 12 _ 74 rfl rfl rfl).2.1
          have d14 : dn 14 = false := by cases hq : dn 14 with | false => rfl | true => exact absurd (Hd 14 hq).2 (by decide)
          have HJ' : Below wr.heap.size wr w1 := by simpa [d14] using HJ
          go_simp
          have hb : ∀ ob, Below w1.heap.size w1 (w1.alloc ob) := fun ob => (Below.refl _ _).alloc (Nat.le_refl _) _
          exact k _ _ (by simp) (by show (if dn 14 = true then _ else _); rw [d14]; exact HJ'.trans ((hb _).mono HJ'.size)) (Fr.of_below (hb _) (Nat.le_trans HBB.out HJ'.size)) ⟨trivial, fun _ => ⟨_, rfl, Bk.new _ _ _⟩⟩
        · intro a w1 vs K dn Hd Hb HJ HK HD HN k
          have e62 := (HD 0 _ 62 rfl rfl rfl).1.trans (HD 0 _ 62 rfl rfl rfl).2.1
          have d14 : dn 14 = false := by cases hq : dn 14 with | false => rfl | true => exact absurd rfl (Hd 14 hq).1
          have HJ' : Below wr.heap.size wr w1 := by simpa [d14] using HJ
          obtain ⟨e75, r75⟩ := HD 13 _ 75 rfl rfl rfl
          obtain ⟨nb, q1, q2⟩ := r75.2 rfl
          refine wpo_call 48 _ _ rfl #[.pointer (some ⟨X.sb, 0, none⟩), .pointer (some ⟨nb, 0, none⟩)] (by simp [Act.eval, e62, e75.trans q1]) (fun args w => by kernel_rfl) ?_
          refine (HRE.out w1 HJ' nb q2).mono ?_
          rintro e w' ⟨rfl, hS, hF⟩
          exact ⟨_, rfl, k _ _ (by simp) (by show (if true = true then _ else _); exact ⟨hS, (Fr.of_below HJ' HBB.out).trans hF⟩) hF ⟨rfl, fun e => by omega⟩⟩
        · intro a w1 vs K dn Hd Hb HJ HK HD HN k
          have e76 := (HD 14 _ 76 rfl rfl rfl).1.trans (HD 14 _ 76 rfl rfl rfl).2.1
          go_simp; exact k _ _ (by simp) HJ (Fr.refl _ _) ⟨rfl, fun e => by omega⟩
      intro vs dn w2 hall hJ hrr
      rw [if_pos (hall 14 (by decide))] at hJ
      obtain ⟨hS2, hF2⟩ := hJ
      have h15 : vs 15 = _ := (hrr 15 _ rfl).1
      have HS2 := Lib.hid hS2
      have HF2 := Lib.hid hF2
      clear hrr HPl HR HMV hS2 hF2 HRE hall
      simp only [putAll, Act.put, h15]
      go_simp
      go_wp2_with fail
      go_ret
      rw [HFF.out]
      exact ⟨rfl, HS2.out, HF1.out.trans HF2.out⟩
end Go.Proofs.YtogobjmmgjfjjaaGreat
/- What is proved: a contract of engine.Path. Conditions: the plant and the goal lie in memory. -/
namespace Go.Proofs.YtogobjmmgjfjjaaGreat
open Go.RowKit

/-! The rows' depth. -/
structure SrOk (st : Srch) : Prop where
  dep : ∀ (i : Nat) (r : RowC), st.rows[i]? = some r → r.depth ≤ i
  fnd : ∀ r : RowC, st.found = some r → r.depth ≤ 20001
  few : st.rows.length ≤ st.seen.length ∧ st.seen.length ≤ 20000
  next : st.next ≤ st.rows.length
theorem srch0_ok : SrOk srch0 := ⟨fun i r h => by simp [srch0] at h, fun r h => by simp [srch0] at h, by simp [srch0], by simp [srch0]⟩
theorem reachS_ok {p : PlantD} {g : List LitD} {st : Srch} {r : RowC} (h : SrOk st) (hr : r.depth ≤ st.rows.length) :
    SrOk (reachS p g st r).2 ∧ st.rows.length ≤ (reachS p g st r).2.rows.length ∧ (reachS p g st r).2.next = st.next := by
  have hf := h.few
  have hn := h.next
  unfold reachS
  by_cases h1 : inSet st.seen r.at_ = true
  · rw [if_pos h1]; exact ⟨h, Nat.le_refl _, rfl⟩
  · rw [if_neg h1]
    by_cases h2 : st.seen.length = 20000
    · rw [if_pos h2]; exact ⟨⟨h.dep, h.fnd, h.few, h.next⟩, Nat.le_refl _, rfl⟩
    · rw [if_neg h2]
      by_cases h3 : reachedB p r.at_ g = true
      · rw [if_pos h3]
        refine ⟨⟨h.dep, fun r' e => ?_, ?_, h.next⟩, Nat.le_refl _, rfl⟩
        · simp only [Option.some.injEq] at e; subst e; omega
        · simp only [List.length_append, List.length_cons, List.length_nil]; omega
      · rw [if_neg h3]
        refine ⟨⟨fun i r' e => ?_, h.fnd, ?_, ?_⟩, by simp, rfl⟩
        · simp only [List.getElem?_append] at e
          split at e
          · exact h.dep i r' e
          · have hi : i - st.rows.length = 0 := by
              rcases Nat.eq_zero_or_pos (i - st.rows.length) with hz | hz
              · exact hz
              · rw [List.getElem?_eq_none (by simp; omega)] at e; cases e
            rw [hi] at e
            simp only [List.getElem?_cons_zero, Option.some.injEq] at e
            subst e; omega
        · simp only [List.length_append, List.length_cons, List.length_nil]; omega
        · simp only [List.length_append, List.length_cons, List.length_nil]; omega
theorem try1S_ok {p : PlantD} {g : List LitD} {st : Srch} {r : RowC} (h : SrOk st) (hr : r.depth + 1 ≤ st.rows.length) (v : Nat) (o : Bool) :
    SrOk (try1S p g r v o st).2 ∧ st.rows.length ≤ (try1S p g r v o st).2.rows.length ∧ (try1S p g r v o st).2.next = st.next := by
  unfold try1S
  split
  · exact reachS_ok h hr
  · exact ⟨h, Nat.le_refl _, rfl⟩
theorem trysS_ok {p : PlantD} {g : List LitD} {r : RowC} : ∀ (n q : Nat) {st : Srch} (_ : SrOk st) (_ : r.depth + 1 ≤ st.rows.length),
    SrOk (trysS p g r n q st).2 ∧ st.rows.length ≤ (trysS p g r n q st).2.rows.length ∧ (trysS p g r n q st).2.next = st.next
  | 0, q, st, h, _ => ⟨h, Nat.le_refl _, rfl⟩
  | n + 1, q, st, h, hr => by
    obtain ⟨a, b, c⟩ := try1S_ok (p := p) (g := g) h hr (q / 2) (q % 2 == 1)
    unfold trysS
    split
    · obtain ⟨a2, b2, c2⟩ := trysS_ok (r := r) n (q + 1) a (by omega)
      exact ⟨a2, Nat.le_trans b b2, c2.trans c⟩
    · exact ⟨a, b, c⟩
theorem followS_ok {p : PlantD} {g : List LitD} {r : RowC} {st : Srch} (h : SrOk st) (hr : r.depth + 1 ≤ st.rows.length) : SrOk (followS p g r st).2 ∧ (followS p g r st).2.next = st.next := by
  obtain ⟨a, b, c⟩ := trysS_ok (p := p) (g := g) (2 * p.valves.length) 0 h hr
  unfold followS
  split
  · obtain ⟨a2, _, c2⟩ := reachS_ok (p := p) (g := g) (r := .step (movedB p r.at_ fun _ => false) r none) a (by show r.depth + 1 ≤ _; omega)
    exact ⟨a2, c2.trans c⟩
  · exact ⟨a, c⟩

section
variable {P : Program} {ops : Array Oper} {rest : List Oper} {o : Oper} {a : Act} {w : World} {Q : Exit → Act → World → Prop}
theorem wpBuildL (hgd : o.guard = none) (t : TypeId) (parts : Array (Nat × Operand)) (ho : o.op = .build t parts) (l : List (Nat × Value)) (cs : Array Value) (hev : (parts.map fun (i, x) => (i, a.eval x)).toList = l) (hb : P.built t l = some cs)
    (h : wpList P ops Q rest (a.put o.dst (.agg cs)) w) : wpList P ops Q (o :: rest) a w :=
  wpList_plain hgd fun _ hK => wp_build t parts ho (by rw [hev, hb]; rfl) (by rw [hev, hb]; exact hK _ _ h)
end
theorem built_search (x : PV) (gA : Option Addr) (gc sb mb : Nat) (p : PlantD) (n : Nat) : Tryz.prog.built 135 [(0, .agg (plantA x p)), (1, .slice gA n gc), (2, .map (some mb))] = some (searchA ⟨x, gA, gc, sb, mb⟩ p n 0 false (.slice none 0 0) (.pointer none)) := by kernel_rfl

def PathR (B : Nat) (X : SrX) (p : PlantD) (g : List LitD) (w0 wr : World) (n : Nat) (more : Bool) (st : Srch) : Prop :=
  SrIn wr B X p g st ∧ Fr B w0 wr ∧ SrOk st ∧ loopS p g n more st = pathS p g ∧ (more = true → st.next + n = 20002)
theorem loopS_false (p : PlantD) (g : List LitD) (n : Nat) (st : Srch) : loopS p g n false st = st := by cases n <;> rfl
theorem loopS_none {p : PlantD} {g : List LitD} {n : Nat} {st : Srch} (h : st.rows[st.next]? = none) : loopS p g (n + 1) true st = st := by
  unfold loopS; rw [if_pos rfl, h]
theorem loopS_some {p : PlantD} {g : List LitD} {n : Nat} {st : Srch} {r : RowC} (h : st.rows[st.next]? = some r) :
    loopS p g (n + 1) true st = loopS p g n (followS p g r { st with next := st.next + 1 }).1 (followS p g r { st with next := st.next + 1 }).2 := by
  conv => lhs; unfold loopS
  rw [if_pos rfl, h]
theorem goalOk_of {p : PlantD} {g : List LitD} {m : Int} (h : litsOk p.valves.length g m = true) : GoalOk p g := by
  unfold litsOk at h
  simp only [Bool.and_eq_true, allN_iff] at h
  intro k hk
  have := h.2 k hk
  rw [inB_iff] at this
  omega
theorem plantOk_valves {p : PlantD} (h : plantB p = true) : ValvesOk p := by
  unfold plantB at h
  simp only [Bool.and_eq_true] at h
  exact valvesOk_of _ h.1.1.1.1.2
theorem plantOk_never {p : PlantD} (h : plantB p = true) : NeverOk p := by
  unfold plantB at h
  simp only [Bool.and_eq_true] at h
  exact neverOk_of _ h.1.2

set_option maxRecDepth 100000 in
set_option maxHeartbeats 1000000 in
theorem path_any (w : World) (x : PV) (p : PlantD) (h : PlantAt w w.heap.size x p) (gA : Option Addr) (gc : Nat) (g : List LitD) (hg : LitsAt w w.heap.size gA g) :
    Calls Tryz.prog 16 #[.agg (plantA x p), .slice gA g.length gc] w
      fun e w' => ∃ v, e = .returned (.tuple #[v, .int .i64 (pathB p g).2]) ∧ OrdSl w' w.heap.size v (pathB p g).1 ∧ Below w.heap.size w w' := by
  have hb0 : ∀ o, Below w.heap.size w (w.alloc o) := fun o => (Below.refl _ _).alloc (Nat.le_refl _) _
  have H0 := Lib.hid h
  have HG0 := Lib.hid hg
  clear h hg
  have hmm := @run_makeMap Tryz.prog
  go_enter Tryz.func16, Tryz.ntmps16
  go_wp2_with (first | (refine wpLoadAt rfl 27 _ rfl w.heap.size 0 rfl (plantA x p) _ (fun j u hj => by rw [Nat.zero_add]; exact ((Bk.new w 27 (plantA x p)).cell j).trans hj) und_plant rfl info_plant ?_))
  obtain ⟨W, hW⟩ : ∃ W, W = w.alloc (.cells (plantA x p) 27) := ⟨_, rfl⟩
  have hbW : Below w.heap.size w W := by rw [hW]; exact hb0 _
  have hWs : W.heap.size = w.heap.size + 1 := by rw [hW]; simp
  have hpb : Bk W w.heap.size 27 (plantA x p) := by rw [hW]; exact Bk.new _ _ _
  rw [← hW]
  clear hW
  have HPC : Hid (∀ w1, Below W.heap.size W w1 → ∀ j u, (plantA x p)[j]? = some u → w1.cell? ⟨w.heap.size, 0 + j, none⟩ = some u) := Lib.hid fun w1 hw1 j u hj => by rw [Nat.zero_add]; exact ((hpb.below hw1 hpb.lt).cell j).trans hj
  have HPW : Hid (∀ w1, Below W.heap.size W w1 → PlantAt w1 w1.heap.size x p) := Lib.hid fun w1 hw1 => (H0.out.below (hbW.trans (hw1.mono (by omega)))).mono (by have := hw1.size; omega)
  have HGW : Hid (∀ w1, Below W.heap.size W w1 → LitsAt w1 w1.heap.size gA g) := Lib.hid fun w1 hw1 => (HG0.out.below (hbW.trans (hw1.mono (by omega)))).mono (by have := hw1.size; omega)
  have HBW : Hid (∀ w1, Below W.heap.size W w1 → Below w.heap.size w w1) := Lib.hid fun w1 hw1 => hbW.trans (hw1.mono (by omega))
  clear hbW hWs hpb hb0
  refine (checkPlant_any W x p (HPW.out W (Below.refl _ _))).mono ?_
  rintro e w1 ⟨rfl, hb1⟩
  have HB1 := Lib.hid hb1
  clear hb1
  cases hq : plantB p with
  | false =>
    have Hf := Lib.hid (show pathB p g = ([], 2) by unfold pathB; rw [hq]; rfl)
    clear hq
    go_wp2_with fail
    go_ret2
    rw [Hf.out]
    exact ⟨_, rfl, .inl ⟨rfl, rfl⟩, HBW.out _ HB1.out⟩
  | true =>
    have HQ := Lib.hid hq
    clear hq
    go_wp2_with (first | (refine wpLoadG rfl 27 (.tmp 2) rfl w.heap.size 0 rfl (plantA x p) _ (HPC.out _ HB1.out) und_plant rfl info_plant ?_))
    refine (literals_any w1 x p (HPW.out w1 HB1.out) gA gc g (HGW.out w1 HB1.out) 16).mono ?_
    rintro e w2 ⟨rfl, hb2⟩
    have HB2 := Lib.hid (HB1.out.trans (hb2.mono HB1.out.size))
    clear hb2
    cases hl : litsOk p.valves.length g 16 with
    | false =>
      have Hf := Lib.hid (show pathB p g = ([], 2) by unfold pathB; rw [HQ.out, hl]; rfl)
      clear hl
      go_wp2_with fail
      go_ret2
      rw [Hf.out]
      exact ⟨_, rfl, .inl ⟨rfl, rfl⟩, HBW.out _ HB2.out⟩
    | true =>
      have HL := Lib.hid hl
      clear hl
      have HB3 : Hid (∀ o1 o2, Below W.heap.size W ((w2.alloc o1).alloc o2)) := Lib.hid fun o1 o2 => (HB2.out.alloc HB2.out.size o1).alloc (by have := HB2.out.size; simp; omega) o2
      go_wp2_with (first | (refine wpLoadAt rfl 27 (.tmp 2) rfl w.heap.size 0 rfl (plantA x p) _ (HPC.out _ (by first | exact HB2.out | exact HB3.out _ _)) und_plant rfl info_plant ?_) | (refine wpBuildL rfl 135 _ rfl [(0, .agg (plantA x p)), (1, .slice gA g.length gc), (2, .map (some w2.heap.size))] (searchA ⟨x, gA, gc, w2.heap.size + 1, w2.heap.size⟩ p g.length 0 false (.slice none 0 0) (.pointer none)) (by simp [Act.eval]) (built_search _ _ _ _ _ _ _) ?_))
      obtain ⟨W3, hW3⟩ : ∃ W3, W3 = (w2.alloc (.map #[] 0)).alloc (.cells (searchA ⟨x, gA, gc, w2.heap.size + 1, w2.heap.size⟩ p g.length 0 false (.slice none 0 0) (.pointer none)) 135) := ⟨_, rfl⟩
      rw [← hW3]
      have hB3 : Below W.heap.size W W3 := by rw [hW3]; exact HB3.out _ _
      have hb23 : Below w2.heap.size w2 W3 := by rw [hW3]; exact ((Below.refl _ _).alloc (Nat.le_refl _) _).alloc (by simp) _
      have hS3 : SrAt W3 w2.heap.size ⟨x, gA, gc, w2.heap.size + 1, w2.heap.size⟩ p g srch0 (.slice none 0 0) (.pointer none) [] := by
        refine ⟨(HPW.out w2 HB2.out).below hb23, (HGW.out w2 HB2.out).below hb23, ?_, ?_, ?_, Nat.le_refl _, World.ownsRow_nil _ _ _ _, fun i hi => absurd hi (by simp [srch0]), .inl ⟨rfl, rfl⟩, by simp [srch0], by simp [srch0]⟩
        · rw [hW3]; exact Bk.newAt _ _ _ _ (by simp)
        · rw [hW3]; exact (SetP.made w2).keep (by
            show ((w2.alloc (.map #[] 0)).alloc _).heap[w2.heap.size]? = (w2.alloc (.map #[] 0)).heap[w2.heap.size]?
            exact Below.heap_alloc _ _ _ (by simp))
        · show w2.heap.size ≤ w2.heap.size + 1; omega
      have HS3 := Lib.hid hS3
      have H3 := Lib.hid hB3
      have hvo := plantOk_valves HQ.out
      have hno := plantOk_never HQ.out
      have hgo := goalOk_of HL.out
      have HVO := Lib.hid hvo
      have HNO := Lib.hid hno
      have HGO := Lib.hid hgo
      clear hW3 hB3 hb23 hS3 HB3 hvo hno hgo hmm
      refine (first_any W3 x p (HPW.out W3 H3.out) HVO.out).mono ?_
      rintro e w4 ⟨rfl, hb4⟩
      have HR : Hid (∀ o, o = Obj.cells (rowA (firstB p) (.pointer none) (.pointer none)) 140 → Calls Tryz.prog 48 #[.pointer (some ⟨w2.heap.size + 1, 0, none⟩), .pointer (some ⟨w4.heap.size, 0, none⟩)] (w4.alloc o)
          fun e w' => e = .returned (.bool (reachS p g srch0 (.root (firstB p))).1) ∧ SrIn w' w2.heap.size ⟨x, gA, gc, w2.heap.size + 1, w2.heap.size⟩ p g (reachS p g srch0 (.root (firstB p))).2 ∧ Fr w2.heap.size W3 w') := Lib.hid (by
        rintro o rfl
        have h34 : Below W3.heap.size W3 (w4.alloc (.cells (rowA (firstB p) (.pointer none) (.pointer none)) 140)) := hb4.alloc hb4.size _
        have h := reach_any _ w2.heap.size ⟨x, gA, gc, w2.heap.size + 1, w2.heap.size⟩ p g srch0 ⟨_, _, _, HS3.out.below h34⟩ HVO.out HGO.out (.root (firstB p)) w4.heap.size (Bk.new _ _ _) (firstB_spots HVO.out)
        exact h.mono fun e w' ⟨a, b, c⟩ => ⟨a, b, (Fr.of_below h34 HS3.out.lt).trans c⟩)
      clear hb4
      go_wp2_with (first | (refine wpBuildL rfl 140 _ rfl [(0, .agg (spotsA (firstB p)))] (rowA (firstB p) (.pointer none) (.pointer none)) (by simp [Act.eval]) (built_row1 _) ?_))
      refine (HR.out _ rfl).mono ?_
      rintro e w5 ⟨rfl, hS5, hF5⟩
      have hP5 : Hid (PathR w2.heap.size ⟨x, gA, gc, w2.heap.size + 1, w2.heap.size⟩ p g W3 w5 20002 (reachS p g srch0 (.root (firstB p))).1 (reachS p g srch0 (.root (firstB p))).2) := Lib.hid
        ⟨hS5, hF5, (reachS_ok srch0_ok (by simp [RowC.depth])).1, rfl, fun _ => by rw [(reachS_ok srch0_ok (by simp [RowC.depth])).2.2]; rfl⟩
      clear hS5 hF5 HR
      go_wp2_with fail
      go_loopg [7] 20002 (fun n v wr => ∃ more st, v = .bool more ∧ Hid (PathR w2.heap.size ⟨x, gA, gc, w2.heap.size + 1, w2.heap.size⟩ p g W3 wr n more st))
      case atStart => exact ⟨_, _, rfl, hP5⟩
      case round =>
        obtain ⟨more, st, rfl, hP⟩ := hrel
        clear hP5
        cases more with
        | false =>
          obtain ⟨⟨qv, fv, rb, hS⟩, hF, hO, hL, _⟩ := hP.out
          rw [loopS_false] at hL
          have HBF := Lib.hid (HBW.out wr (H3.out.trans (hF.below.mono HB2.out.size)))
          have c8 : wr.cell? ⟨w2.heap.size + 1, 8, none⟩ = some fv := hS.s.cell 8
          have c9 : wr.cell? ⟨w2.heap.size + 1, 9, none⟩ = some (.bool st.full) := hS.s.cell 9
          rcases hS.found with ⟨hn, rfl⟩ | ⟨r, b, hs, rfl, hr⟩
          · cases hfl : st.full with
            | false =>
              rw [hfl] at c9
              have Hf := Lib.hid (show pathB p g = ([], 7) by unfold pathB; rw [HQ.out, HL.out, ← hL, hn, hfl]; rfl)
              clear hS hL hn hfl hF hO hP
              go_wp2_with fail
              go_ret2
              rw [Hf.out]
              exact ⟨_, rfl, .inl ⟨rfl, rfl⟩, HBF.out⟩
            | true =>
              rw [hfl] at c9
              have Hf := Lib.hid (show pathB p g = ([], 3) by unfold pathB; rw [HQ.out, HL.out, ← hL, hn, hfl]; rfl)
              clear hS hL hn hfl hF hO hP
              go_wp2_with fail
              go_ret2
              rw [Hf.out]
              exact ⟨_, rfl, .inl ⟨rfl, rfl⟩, HBF.out⟩
          · have Hf := Lib.hid (show pathB p g = (r.back.reverse, 0) by unfold pathB; rw [HQ.out, HL.out, ← hL, hs]; rfl)
            have HR := Lib.hid (orders_any wr r b hr (Nat.le_trans (hO.fnd r hs) (by omega)))
            simp only [ptr] at c8
            clear hS hL hs hF hO hP hr
            go_wp2_with fail
            refine HR.out.mono ?_
            rintro e w6 ⟨v, rfl, hv, hb6⟩
            have HV := Lib.hid hv
            have HB6 := Lib.hid hb6
            clear hv hb6
            go_wp2_with fail
            go_ret2
            rw [Hf.out]
            refine ⟨_, rfl, ?_, HBF.out.trans (HB6.out.mono HBF.out.size)⟩
            rcases HV.out with h | ⟨g', cap, h1, h2, h3, h4⟩
            · exact .inl h
            · exact .inr ⟨g', cap, h1, h2, Nat.le_trans HBF.out.size h3, h4⟩
        | true =>
          obtain ⟨⟨qv, fv, rb, hS⟩, hF, hO, hL, hnx⟩ := hP.out
          have hnx' := hnx rfl
          have hle := hO.next
          have hfew := hO.few
          obtain ⟨m, rfl⟩ : ∃ m, gk = m + 1 := ⟨gk - 1, by omega⟩
          by_cases hlt : st.next < st.rows.length
          · obtain ⟨r, b, h1, h2, h3, h4⟩ := hS.rows _ hlt
            rw [loopS_some h1] at hL
            rcases hS.own.2 with ⟨_, h0⟩ | ⟨g', cap, cur, rfl, hrest⟩
            · omega
            · have hcell : wr.cell? ⟨g', st.next, none⟩ = some (ptr b) := by
                have := hS.own.cells (g := g') rfl st.next (ptr b) (by simp [h2])
                rw [Addr.add_lit, Nat.zero_add] at this
                exact this
              have hT := takeSome_any wr (w2.heap.size + 1) _ hS.s g' st.rows.length cap st.next (by omega) hlt rfl rfl (ptr b) hcell (by
                have := own_ne hS.own hS.s (by decide)
                simp only [Value.ownBlock, ne_eq, Option.some.injEq] at this
                exact fun e => this e.symm)
              have HT := Lib.hid hT
              have HS := Lib.hid hS
              have H4 := Lib.hid h4
              have H3' := Lib.hid h3
              have HF := Lib.hid hF
              have HO := Lib.hid hO
              have HLL := Lib.hid hL
              have HD := Lib.hid (hO.dep _ _ h1)
              have HX := Lib.hid hnx'
              have HLT := Lib.hid hlt
              clear hT hS h4 h3 hF hO hL h1 h2 hcell hrest hP hnx hlt hle hfew hnx'
              go_wp2_with fail
              refine HT.out.mono ?_
              rintro e w6 ⟨rfl, hb6, ho6⟩
              have hS6 := HS.out.store ho6 (st.next + 1) st.full st.found fv hb6 (by have := HLT.out; omega) HS.out.found
              have hF6 := HS.out.frOnly ho6
              have hO6 : SrOk { st with next := st.next + 1 } := ⟨HO.out.dep, HO.out.fnd, HO.out.few, HLT.out⟩
              have HFO := Lib.hid (followS_ok (p := p) (g := g) (r := r) hO6 (by have := HD.out; have := HLT.out; show r.depth + 1 ≤ st.rows.length; omega))
              have HFW := Lib.hid (follow_any w6 w2.heap.size ⟨x, gA, gc, w2.heap.size + 1, w2.heap.size⟩ p g { st with next := st.next + 1 } ⟨_, _, _, hS6⟩ HVO.out HNO.out HGO.out r b (H3'.out.fr hF6) H4.out)
              have HF6 := Lib.hid (HF.out.trans hF6)
              clear hS6 hF6 hO6 hb6 ho6
              simp only [ptr]
              go_wp2_with fail
              refine HFW.out.mono ?_
              rintro e w7 ⟨rfl, hS7, hF7⟩
              have HP7 : Hid (PathR w2.heap.size ⟨x, gA, gc, w2.heap.size + 1, w2.heap.size⟩ p g W3 w7 m (followS p g r { st with next := st.next + 1 }).1 (followS p g r { st with next := st.next + 1 }).2) := Lib.hid
                ⟨hS7, HF6.out.trans hF7, HFO.out.1, HLL.out, fun _ => by rw [HFO.out.2]; have := HX.out; show st.next + 1 + m = 20002; omega⟩
              clear hS7 hF7
              go_wp2_with fail
              go_roundg m
              case rel => exact ⟨_, _, rfl, HP7.out⟩
              case measure => omega
          · have h1 : st.rows[st.next]? = none := List.getElem?_eq_none (by omega)
            rw [loopS_none h1] at hL
            obtain ⟨A, c, rfl⟩ := own_slice hS.own
            have he : st.next = st.rows.length := by omega
            have hT := takeNone_any wr (w2.heap.size + 1) _ hS.s A st.rows.length c rfl (by rw [← he]; rfl)
            have HT := Lib.hid hT
            have HP6 : Hid (∀ n, PathR w2.heap.size ⟨x, gA, gc, w2.heap.size + 1, w2.heap.size⟩ p g W3 (wr.drewN n) m false st) := Lib.hid fun n =>
              have hbn : Below wr.heap.size wr (wr.drewN n) := below_drewN (Below.refl _ _) n
              ⟨⟨_, _, _, hS.below hbn⟩, hF.trans (Fr.of_below hbn hS.lt), hO, by rw [loopS_false]; exact hL, fun h => by cases h⟩
            clear hT hS hF hO hL h1 hP hnx hlt he hle hfew hnx'
            go_wp2_with fail
            refine HT.out.mono ?_
            rintro e w6 ⟨rfl, n6, rfl⟩
            go_wp2_with fail
            go_roundg m
            case rel => exact ⟨_, _, rfl, HP6.out _⟩
            case measure => omega
end Go.Proofs.YtogobjmmgjfjjaaGreat
/- What is proved: a contract of ullagelaw07.example. Conditions: none. -/
namespace Go.Proofs.YtogobjmmgjfjjaaGreat
open Go.RowKit

def exP (never : Bool) : PlantD :=
  ⟨[⟨⟨#[97]⟩, 100, 10, 500⟩, ⟨⟨#[98]⟩, 100, 10, 500⟩], [⟨⟨#[118]⟩, 2, false⟩, ⟨⟨#[119]⟩, 1, false⟩],
   [⟨0, 1, 30, false, [0, 1]⟩, ⟨-1, 0, 50, true, [1]⟩], if never then [[⟨0, true⟩, ⟨1, true⟩]] else []⟩
theorem all1 {q : Nat → Prop} (h0 : q 0) : ∀ i, i < 1 → q i := fun i hi => by
  obtain rfl : i = 0 := by omega
  exact h0
theorem all2 {q : Nat → Prop} (h0 : q 0) (h1 : q 1) : ∀ i, i < 2 → q i := fun i hi => by
  rcases Nat.lt_or_ge i 1 with h | h
  · exact all1 h0 i h
  · obtain rfl : i = 1 := by omega
    exact h1
theorem all3 {q : Nat → Prop} (h0 : q 0) (h1 : q 1) (h2 : q 2) : ∀ i, i < 3 → q i := fun i hi => by
  rcases Nat.lt_or_ge i 2 with h | h
  · exact all2 h0 h1 i h
  · obtain rfl : i = 2 := by omega
    exact h2
theorem all4 {q : Nat → Prop} (h0 : q 0) (h1 : q 1) (h2 : q 2) (h3 : q 3) : ∀ i, i < 4 → q i := fun i hi => by
  rcases Nat.lt_or_ge i 3 with h | h
  · exact all3 h0 h1 h2 i h
  · obtain rfl : i = 3 := by omega
    exact h3
theorem all5 {q : Nat → Prop} (h0 : q 0) (h1 : q 1) (h2 : q 2) (h3 : q 3) (h4 : q 4) : ∀ i, i < 5 → q i := fun i hi => by
  rcases Nat.lt_or_ge i 4 with h | h
  · exact all4 h0 h1 h2 h3 i h
  · obtain rfl : i = 4 := by omega
    exact h4
def exX (n : Nat) (never : Bool) : PV :=
  ⟨some ⟨n + 1, 0, none⟩, 2, some ⟨n + 1 + 1, 0, none⟩, 2, some ⟨n + 1 + 1 + 1 + 1 + 1, 0, none⟩, 2, if never then some ⟨n + 1 + 1 + 1 + 1 + 1 + 1 + 1 + 1, 0, none⟩ else none, if never then 1 else 0,
    fun i => if i = 0 then some ⟨n + 1 + 1 + 1, 0, none⟩ else some ⟨n + 1 + 1 + 1 + 1, 0, none⟩, fun i => if i = 0 then 2 else 1, fun _ => some ⟨n + 1 + 1 + 1 + 1 + 1 + 1 + 1, 0, none⟩, fun _ => 2⟩
theorem ex_plant (w : World) (n : Nat) (never : Bool)
    (h1 : Bk w (n + 1) 72 #[.string ⟨#[97]⟩, .int .i64 100, .int .i64 10, .int .i64 500, .string ⟨#[98]⟩, .int .i64 100, .int .i64 10, .int .i64 500])
    (h2 : Bk w (n + 1 + 1) 78 #[.string ⟨#[118]⟩, .int .i64 2, .bool false, .string ⟨#[119]⟩, .int .i64 1, .bool false])
    (h3 : Bk w (n + 1 + 1 + 1) 3 #[.int .i64 0, .int .i64 1])
    (h4 : Bk w (n + 1 + 1 + 1 + 1) 3 #[.int .i64 1])
    (h5 : Bk w (n + 1 + 1 + 1 + 1 + 1) 76 #[.int .i64 0, .int .i64 1, .int .i64 30, .bool false, .slice (some ⟨n + 1 + 1 + 1, 0, none⟩) 2 2, .int .i64 (-1), .int .i64 0, .int .i64 50, .bool true, .slice (some ⟨n + 1 + 1 + 1 + 1, 0, none⟩) 1 1])
    (h6 : never = true → Bk w (n + 1 + 1 + 1 + 1 + 1 + 1 + 1) 79 #[.int .i64 0, .bool true, .int .i64 1, .bool true] ∧ Bk w (n + 1 + 1 + 1 + 1 + 1 + 1 + 1 + 1) 28 #[.slice (some ⟨n + 1 + 1 + 1 + 1 + 1 + 1 + 1, 0, none⟩) 2 2]) :
    PlantAt w w.heap.size (exX n never) (exP never) := by
  refine ⟨⟨by show 2 ≤ _; omega, fun _ => ⟨n + 1, 0, rfl, h1.lt, all2 (all4 (h1.cell _) (h1.cell _) (h1.cell _) (h1.cell _)) (all4 (h1.cell _) (h1.cell _) (h1.cell _) (h1.cell _))⟩⟩,
    ⟨by show 2 ≤ _; omega, fun _ => ⟨_, 0, rfl, h2.lt, all2 (all3 (h2.cell _) (h2.cell _) (h2.cell _)) (all3 (h2.cell _) (h2.cell _) (h2.cell _))⟩⟩,
    ⟨by show 2 ≤ _; omega, fun _ => ⟨_, 0, rfl, h5.lt, all2 (all5 (h5.cell _) (h5.cell _) (h5.cell _) (h5.cell _) (h5.cell _)) (all5 (h5.cell _) (h5.cell _) (h5.cell _) (h5.cell _) (h5.cell _))⟩⟩,
    all2 ⟨by show 2 ≤ _; omega, fun _ => ⟨_, 0, rfl, h3.lt, all2 (all1 (h3.cell _)) (all1 (h3.cell _))⟩⟩ ⟨by show 1 ≤ _; omega, fun _ => ⟨_, 0, rfl, h4.lt, all1 (all1 (h4.cell _))⟩⟩, ?_, ?_, by show 2 * 16 ≤ _ ∧ 2 * 16 ≤ _; omega⟩
  · cases never with
    | false => exact Sl.nil _ _ _ _ _
    | true =>
      obtain ⟨h6, h7⟩ := h6 rfl
      exact ⟨by show 1 ≤ _; omega, fun _ => ⟨_, 0, rfl, h7.lt, all1 (all1 (h7.cell _))⟩⟩
  · cases never with
    | false => intro i hi; exact absurd hi (by show ¬ i < 0; omega)
    | true =>
      obtain ⟨h6, h7⟩ := h6 rfl
      exact all1 ⟨by show 2 ≤ _; omega, fun _ => ⟨_, 0, rfl, h6.lt, all2 (all2 (h6.cell _) (h6.cell _)) (all2 (h6.cell _) (h6.cell _))⟩⟩

set_option maxRecDepth 100000 in
set_option maxHeartbeats 1000000 in
theorem example_any (w : World) (never : Bool) :
    Calls Tryz.prog 39 #[.bool never] w fun e w' => ∃ x, e = .returned (.agg (plantA x (exP never))) ∧ PlantAt w' w'.heap.size x (exP never) ∧ Below w.heap.size w w' := by
  have blk : ∀ (W : World) (m : Nat) (t : TypeId) (cs : Array Value), m = W.heap.size → Bk (W.alloc (.cells cs t)) m t cs := fun W m t cs h => Bk.newAt W t cs m h
  cases never with
  | false =>
    go_enter Tryz.func39, Tryz.ntmps39
    go_wp2_with fail
    refine bodyPost_ret (v := .agg (plantA (exX w.heap.size false) (exP false))) (results_cellS rfl _ _ w.heap.size 27 (plantA (exX w.heap.size false) (exP false)) _ rfl ?_ und_plant rfl info_plant) rfl ⟨exX w.heap.size false, rfl, ex_plant _ w.heap.size false ?_ ?_ ?_ ?_ ?_ (fun h => by cases h), ?_⟩
    · exact ((((((blk _ _ _ _ rfl).alloc _).alloc _).alloc _).alloc _).alloc _).alloc _
    · exact (((((blk _ _ _ _ (by simp)).alloc _).alloc _).alloc _).alloc _).alloc _
    · exact ((((blk _ _ _ _ (by simp)).alloc _).alloc _).alloc _).alloc _
    · exact (((blk _ _ _ _ (by simp)).alloc _).alloc _).alloc _
    · exact ((blk _ _ _ _ (by simp)).alloc _).alloc _
    · exact (blk _ _ _ _ (by simp)).alloc _
    · exact (((((((Below.refl _ _).alloc (Nat.le_refl _) _).alloc (by simp) _).alloc (by simp; omega) _).alloc (by simp; omega) _).alloc (by simp; omega) _).alloc (by simp; omega) _).alloc (by simp; omega) _
  | true =>
    go_enter Tryz.func39, Tryz.ntmps39
    go_wp2_with fail
    refine bodyPost_ret (v := .agg (plantA (exX w.heap.size true) (exP true))) (results_cellS rfl _ _ w.heap.size 27 (plantA (exX w.heap.size true) (exP true)) _ rfl ?_ und_plant rfl info_plant) rfl ⟨exX w.heap.size true, rfl, ex_plant _ w.heap.size true ?_ ?_ ?_ ?_ ?_ (fun _ => ⟨?_, ?_⟩), ?_⟩
    · exact ((((((((blk _ _ _ _ rfl).alloc _).alloc _).alloc _).alloc _).alloc _).alloc _).alloc _).alloc _
    · exact (((((((blk _ _ _ _ (by simp)).alloc _).alloc _).alloc _).alloc _).alloc _).alloc _).alloc _
    · exact ((((((blk _ _ _ _ (by simp)).alloc _).alloc _).alloc _).alloc _).alloc _).alloc _
    · exact (((((blk _ _ _ _ (by simp)).alloc _).alloc _).alloc _).alloc _).alloc _
    · exact ((((blk _ _ _ _ (by simp)).alloc _).alloc _).alloc _).alloc _
    · exact (((blk _ _ _ _ (by simp)).alloc _).alloc _).alloc _
    · exact (blk _ _ _ _ (by simp)).alloc _
    · exact blk _ _ _ _ (by simp)
    · exact (((((((((Below.refl _ _).alloc (Nat.le_refl _) _).alloc (by simp) _).alloc (by simp; omega) _).alloc (by simp; omega) _).alloc (by simp; omega) _).alloc (by simp; omega) _).alloc (by simp; omega) _).alloc (by simp; omega) _).alloc (by simp; omega) _
end Go.Proofs.YtogobjmmgjfjjaaGreat
/- What is proved: what the example answers, in plain Lean. Conditions: none. -/
namespace Go.Proofs.YtogobjmmgjfjjaaGreat
open Go.RowKit

theorem exP_ok (never : Bool) : plantB (exP never) = true := by
  cases never with
  | false => kernel_rfl
  | true => kernel_rfl
def exS : Sys := tickB (tickB (orderB (orderB (putB (startB (exP false)) 0 80 0).2 0 true).2 1 true).2)
set_option maxRecDepth 100000 in
theorem exS_put : (putB (startB (exP false)) 0 80 0).1 = 0 := by kernel_rfl
set_option maxRecDepth 100000 in
theorem exS_a : numberB exS 0 0 = (50, 0) := by kernel_rfl
set_option maxRecDepth 100000 in
theorem exS_b : numberB exS 0 1 = (30, 0) := by kernel_rfl
set_option maxRecDepth 100000 in
theorem exS_c : numberB exS 1 0 = (200, 0) := by kernel_rfl
theorem exT_1 : (orderB (startB (exP true)) 0 true).1 = 0 := by kernel_rfl
theorem exT_2 : (orderB (orderB (startB (exP true)) 0 true).2 1 true).1 = 9 := by kernel_rfl
theorem exLoss : lossB 100 60 0 30 1 2 = (6, 14, 0) := by kernel_rfl
set_option maxRecDepth 100000 in
theorem exPath1 : pathB (exP false) [⟨0, true⟩] = ([⟨0, true⟩], 0) := by kernel_rfl
set_option maxRecDepth 100000 in
theorem exPath2 : pathB (exP true) [⟨0, true⟩, ⟨1, true⟩] = ([], 7) := by kernel_rfl
end Go.Proofs.YtogobjmmgjfjjaaGreat
/- What is proved: a contract of ullagelaw07.awake: it answers true. Conditions: none. -/
namespace Go.Proofs.YtogobjmmgjfjjaaGreat
open Go.RowKit

/-- Two systems, the first one below the second one. -/
structure Two (w w1 : World) (X1 X2 : SX) (S1 S2 : Sys) : Prop where
  a : SysAt w1 X1 S1
  b : SysAt w1 X2 S2
  below : Below w.heap.size w w1
  lo : w.heap.size ≤ X1.lo
  hi : X1.hi ≤ X2.lo
section
variable {w w1 w2 : World} {X1 X2 : SX} {S1 S2 S' : Sys}
theorem Two.first (h : Two w w1 X1 X2 S1 S2) (ha : SysAt w2 X1 S') (hc : Chg X1 w1 w2) : Two w w2 X1 X2 S' S2 := by
  have l := h.a.lo; have u := h.a.hi; have lo := h.lo; have hi := h.hi; have z := h.below.size; have v := h.b.hi
  exact ⟨ha, h.b.keep (fun b h1 h2 => hc.block b (by omega) (by omega) (by omega) (by omega)) hc.size, h.below.trans (hc.below z (by omega) (by omega) (by omega)), lo, hi⟩
theorem Two.second (h : Two w w1 X1 X2 S1 S2) (ha : SysAt w2 X2 S') (hc : Chg X2 w1 w2) : Two w w2 X1 X2 S1 S' := by
  have l := h.b.lo; have u := h.a.hi; have lo := h.lo; have hi := h.hi; have z := h.below.size; have v := h.b.hi; have l1 := h.a.lo
  exact ⟨h.a.keep (fun b h1 h2 => hc.block b (by omega) (by omega) (by omega) (by omega)) hc.size, ha, h.below.trans (hc.below z (by omega) (by omega) (by omega)), lo, hi⟩
theorem Two.mem (h : Two w w1 X1 X2 S1 S2) (hb : Below w1.heap.size w1 w2) : Two w w2 X1 X2 S1 S2 :=
  ⟨h.a.below hb, h.b.below hb, h.below.trans (hb.mono h.below.size), h.lo, h.hi⟩
theorem Chg.bk {X : SX} {S : Sys} {g : Nat} {t : TypeId} {cs : Array Value} (hs : SysAt w1 X S) (hc : Chg X w1 w2) (h : Bk w1 g t cs) (h1 : t ≠ 111) (h2 : t ≠ 146) (h3 : t ≠ 3) : Bk w2 g t cs := by
  have ne : ∀ {g' t' : Nat} {c' : Array Value}, Bk w1 g' t' c' → t ≠ t' → g ≠ g' := by
    intro g' t' c' h' hne e
    subst e
    have e := h.symm.trans h'
    simp only [Option.some.injEq, Obj.cells.injEq] at e
    exact hne e.2.1
  exact (hc.block g h.lt (ne hs.s h1) (ne hs.t h2) (ne hs.c h3)).trans h
end
theorem startB_at (never : Bool) {P : Prop} {Q : Prop} (h : if plantB (exP never) = true then P else Q) : P := by rw [if_pos (exP_ok never)] at h; exact h

set_option maxRecDepth 100000 in
set_option maxHeartbeats 4000000 in
theorem awake_any (w : World) : Calls Tryz.prog 14 #[] w fun e w' => e = .returned (.bool true) ∧ Below w.heap.size w w' := by
  go_enter Tryz.func14, Tryz.ntmps14
  go_wp2_with fail
  refine (example_any w false).mono ?_
  rintro e w1 ⟨x1, rfl, hp1, hb1⟩
  have HN1 := Lib.hid (new_any w1 x1 (exP false) hp1)
  have HB1 := Lib.hid hb1
  clear hp1 hb1
  go_wp2_with fail
  refine HN1.out.mono ?_
  rintro e w2 ⟨hb2, h2⟩
  obtain ⟨X1, rfl, hs1, hlo1⟩ := startB_at false h2
  have HB2 := Lib.hid (HB1.out.trans (hb2.mono HB1.out.size))
  have HL1 := Lib.hid (Nat.le_trans HB1.out.size hlo1)
  have HS1 := Lib.hid hs1
  clear HN1 hb2 h2 hs1 hlo1 HB1
  go_wp2_with fail
  refine (example_any w2 true).mono ?_
  rintro e w3 ⟨x2, rfl, hp3, hb3⟩
  have HN2 := Lib.hid (new_any w3 x2 (exP true) hp3)
  have HB3 := Lib.hid hb3
  clear hp3 hb3
  go_wp2_with fail
  refine HN2.out.mono ?_
  rintro e w4 ⟨hb4, h4⟩
  obtain ⟨X2, rfl, hs2, hlo2⟩ := startB_at true h4
  have H4 : Hid (Two w w4 X1 X2 (startB (exP false)) (startB (exP true))) := Lib.hid
    ⟨(HS1.out.below HB3.out).below hb4, hs2, HB2.out.trans ((HB3.out.trans (hb4.mono HB3.out.size)).mono HB2.out.size), HL1.out, by have := HS1.out.hi.2.2.2.2; have := HB3.out.size; omega⟩
  clear HN2 hb4 h4 hs2 hlo2 HS1 HL1 HB2 HB3
  go_wp2_with fail
  have c := put_any w4 X1 _ H4.out.a 0 80 0
  rw [exS_put] at c
  refine c.mono ?_
  rintro e w5 ⟨rfl, hs, hc⟩
  have H5 := Lib.hid (H4.out.first hs hc)
  clear c hs hc H4
  go_wp2_with fail
  refine (sysOrder_any w5 X1 _ H5.out.a 0 true).mono ?_
  rintro e w6 ⟨rfl, hs, hc⟩
  have H6 := Lib.hid (H5.out.first hs hc)
  clear hs hc H5
  go_wp2_with fail
  refine (sysOrder_any w6 X1 _ H6.out.a 1 true).mono ?_
  rintro e w7 ⟨rfl, hs, hc⟩
  have H7 := Lib.hid (H6.out.first hs hc)
  clear hs hc H6
  go_wp2_with fail
  refine (tick_any w7 X1 _ H7.out.a).mono ?_
  rintro e w8 ⟨rfl, hs, hc⟩
  have H8 := Lib.hid (H7.out.first hs hc)
  clear hs hc H7
  go_wp2_with fail
  refine (tick_any w8 X1 _ H8.out.a).mono ?_
  rintro e w9 ⟨rfl, hs, hc⟩
  have H9 : Hid (Two w w9 X1 X2 exS (startB (exP true))) := Lib.hid (H8.out.first hs hc)
  clear hs hc H8
  go_wp2_with fail
  have c := number_any w9 X1 exS H9.out.a 0 0 0 0
  rw [exS_a] at c
  refine c.mono ?_
  rintro e w10 ⟨rfl, hb⟩
  have H10 := Lib.hid (H9.out.mem hb)
  clear c hb H9
  go_wp2_with fail
  have c := number_any w10 X1 exS H10.out.a 0 1 0 0
  rw [exS_b] at c
  refine c.mono ?_
  rintro e w11 ⟨rfl, hb⟩
  have H11 := Lib.hid (H10.out.mem hb)
  clear c hb H10
  go_wp2_with fail
  have c := number_any w11 X1 exS H11.out.a 1 0 0 0
  rw [exS_c] at c
  refine c.mono ?_
  rintro e w12 ⟨rfl, hb⟩
  have H12 := Lib.hid (H11.out.mem hb)
  clear c hb H11
  go_wp2_with fail
  refine (example_any w12 false).mono ?_
  rintro e w13 ⟨x3, rfl, hp, hb⟩
  have H13 := Lib.hid (H12.out.mem hb)
  have HPA : Hid (∀ o, o = Obj.cells #[.int .i64 0, .bool true] 79 → Calls Tryz.prog 16 #[.agg (plantA x3 (exP false)), .slice (some ⟨w13.heap.size, 0, none⟩) 1 1] (w13.alloc o)
      fun e w' => ∃ g cap cs, e = .returned (.tuple #[.slice (some ⟨g, 0, none⟩) 1 cap, .int .i64 0]) ∧ Bk w' g 38 cs ∧ cs[0]? = some (.int .i64 0) ∧ cs[1]? = some (.bool true) ∧ Below (w13.alloc o).heap.size (w13.alloc o) w') := Lib.hid (by
    rintro o rfl
    have hbo : Below w13.heap.size w13 (w13.alloc (.cells #[.int .i64 0, .bool true] 79)) := (Below.refl _ _).alloc (Nat.le_refl _) _
    have hn := Bk.new w13 79 #[.int .i64 0, .bool true]
    have c := path_any (w13.alloc (.cells #[.int .i64 0, .bool true] 79)) x3 (exP false) ((hp.below hbo).mono (by simp)) (some ⟨w13.heap.size, 0, none⟩) 1 [⟨0, true⟩]
      ⟨by show 1 ≤ _; omega, fun _ => ⟨_, 0, rfl, hn.lt, all1 (all2 (hn.cell _) (hn.cell _))⟩⟩
    rw [exPath1] at c
    refine c.mono ?_
    rintro e w' ⟨v, rfl, hv, hb'⟩
    rcases hv with ⟨h, _⟩ | ⟨g, cap, rfl, ⟨cs, q1, _, q3⟩, _⟩
    · cases h
    · exact ⟨g, cap, cs, rfl, q1, (q3 0 (by decide)).1, (q3 0 (by decide)).2, hb'⟩)
  clear hp hb H12
  go_wp2_with fail
  refine (HPA.out _ rfl).mono ?_
  rintro e w14 ⟨g, cap, cs, rfl, hg, hg0, hg1, hb⟩
  have H14 := Lib.hid ((H13.out.mem ((Below.refl _ _).alloc (Nat.le_refl _) _)).mem hb)
  have HG := Lib.hid hg
  have HG0 := Lib.hid hg0
  have HG1 := Lib.hid hg1
  clear hg hg0 hg1 hb H13 HPA
  go_wp2_with fail
  refine (example_any w14 true).mono ?_
  rintro e w15 ⟨x4, rfl, hp, hb⟩
  have H15 := Lib.hid (H14.out.mem hb)
  have HG15 := Lib.hid (HG.out.below hb HG.out.lt)
  have HPA : Hid (∀ o, o = Obj.cells #[.int .i64 0, .bool true, .int .i64 1, .bool true] 79 → Calls Tryz.prog 16 #[.agg (plantA x4 (exP true)), .slice (some ⟨w15.heap.size, 0, none⟩) 2 2] (w15.alloc o)
      fun e w' => ∃ v, e = .returned (.tuple #[v, .int .i64 7]) ∧ Below (w15.alloc o).heap.size (w15.alloc o) w') := Lib.hid (by
    rintro o rfl
    have hbo : Below w15.heap.size w15 (w15.alloc (.cells #[.int .i64 0, .bool true, .int .i64 1, .bool true] 79)) := (Below.refl _ _).alloc (Nat.le_refl _) _
    have hn := Bk.new w15 79 #[.int .i64 0, .bool true, .int .i64 1, .bool true]
    have c := path_any (w15.alloc (.cells #[.int .i64 0, .bool true, .int .i64 1, .bool true] 79)) x4 (exP true) ((hp.below hbo).mono (by simp)) (some ⟨w15.heap.size, 0, none⟩) 2 [⟨0, true⟩, ⟨1, true⟩]
      ⟨by show 2 ≤ _; omega, fun _ => ⟨_, 0, rfl, hn.lt, all2 (all2 (hn.cell _) (hn.cell _)) (all2 (hn.cell _) (hn.cell _))⟩⟩
    rw [exPath2] at c
    refine c.mono ?_
    rintro e w' ⟨v, rfl, _, hb'⟩
    exact ⟨v, rfl, hb'⟩)
  clear hp hb H14 HG
  go_wp2_with fail
  refine (HPA.out _ rfl).mono ?_
  rintro e w16 ⟨v, rfl, hb⟩
  have hb' : Below w15.heap.size w15 w16 := Below.trans ((Below.refl _ w15).alloc (Nat.le_refl _) _) (hb.mono (by simp))
  have H16 := Lib.hid (H15.out.mem hb')
  have HG16 := Lib.hid (HG15.out.below hb' HG15.out.lt)
  clear hb hb' H15 HPA HG15
  go_wp2_with fail
  have c := loss_any w16 100 60 0 30 1 2
  rw [exLoss] at c
  refine c.mono ?_
  rintro e w17 ⟨rfl, rfl⟩
  clear c
  go_wp2_with fail
  have c := sysOrder_any w16 X2 _ H16.out.b 0 true
  rw [exT_1] at c
  refine c.mono ?_
  rintro e w18 ⟨rfl, hs, hc⟩
  have H18 := Lib.hid (H16.out.second hs hc)
  have HG18 := Lib.hid (Chg.bk H16.out.b hc HG16.out (by decide) (by decide) (by decide))
  clear c hs hc H16 HG16
  go_wp2_with fail
  have c := sysOrder_any w18 X2 _ H18.out.b 1 true
  rw [exT_2] at c
  refine c.mono ?_
  rintro e w19 ⟨rfl, hs, hc⟩
  have H19 := Lib.hid (H18.out.second hs hc)
  have hg := Chg.bk H18.out.b hc HG18.out (by decide) (by decide) (by decide)
  have g0 : w19.cell? ⟨g, 0, none⟩ = some (.int .i64 0) := (hg.cell 0).trans HG0.out
  have g1 : w19.cell? ⟨g, 1, none⟩ = some (.bool true) := (hg.cell 1).trans HG1.out
  clear c hs hc H18 HG18 hg
  go_wp2_with fail
  go_ret
  exact ⟨rfl, H19.out.below⟩
end Go.Proofs.YtogobjmmgjfjjaaGreat
/- What is proved: a contract of ullageref07's in. Conditions: none. -/
namespace Go.Proofs.YtogobjmmgjfjjaaGreat
open Go.RowKit
set_option maxHeartbeats 400000 in
theorem in_any (a b c : Int) (w : World) :
    Calls Tryz.prog 76 #[.int .i64 a, .int .i64 b, .int .i64 c] w fun e w' => e = .returned (.bool (inB a b c)) ∧ w = w' := by
  go_enter Tryz.func76, Tryz.ntmps76
  go_wp2
  all_goals (go_ret; refine ⟨ret_bool ?_, rfl⟩; unfold inB; by_cases h1 : b ≤ a <;> by_cases h2 : a ≤ c <;> simp [h1, h2] <;> omega)

end Go.Proofs.YtogobjmmgjfjjaaGreat
/- What is proved: a contract of ullageref07.Great: where it says no, the plant's lists are short. Conditions: the plant lies in memory. -/
namespace Go.Proofs.YtogobjmmgjfjjaaGreat
open Go.RowKit

def NotGreat (p : PlantD) : Prop := p.tanks.length ≤ 20 ∧ p.valves.length ≤ 20 ∧ p.lines.length ≤ 40 ∧ p.never.length ≤ 40
def GreatPost (p : PlantD) (w : World) (e : Ending) (w' : World) : Prop := ∃ b, e = .returned (.bool b) ∧ Hid (b = false → NotGreat p) ∧ Below w.heap.size w w'
set_option maxRecDepth 100000 in
set_option maxHeartbeats 4000000 in
theorem great_any (w : World) (x : PV) (p : PlantD) (h : PlantAt w w.heap.size x p) :
    Calls Tryz.prog 13 #[.agg (plantA x p)] w (GreatPost p w) := by
  have hb0 : ∀ o, Below w.heap.size w (w.alloc o) := fun o => (Below.refl _ _).alloc (Nat.le_refl _) _
  have hnt := h.tanks.1
  have hnv := h.valves.1
  have hnl := h.lines.1
  have hnn := h.never.1
  obtain ⟨W, hW⟩ : ∃ W, W = w.alloc (.cells (plantA x p) 27) := ⟨_, rfl⟩
  have hpb : Bk W w.heap.size 27 (plantA x p) := by rw [hW]; exact Bk.new _ _ _
  have hbW : Below w.heap.size w W := by rw [hW]; exact hb0 _
  have c0 : W.cell? ⟨w.heap.size, 0, none⟩ = some (.slice x.tA p.tanks.length x.tc) := hpb.cell 0
  have c1 : W.cell? ⟨w.heap.size, 1, none⟩ = some (.slice x.vA p.valves.length x.vc) := hpb.cell 1
  have c2 : W.cell? ⟨w.heap.size, 2, none⟩ = some (.slice x.lA p.lines.length x.lc) := hpb.cell 2
  have c3 : W.cell? ⟨w.heap.size, 3, none⟩ = some (.slice x.nA p.never.length x.nc) := hpb.cell 3
  have HB := Lib.hid hbW
  have HP := Lib.hid (h.below hbW)
  have HW := Lib.hid hW
  clear h hpb hbW hW hb0
  obtain ⟨nt, ht⟩ : ∃ n, n = p.tanks.length := ⟨_, rfl⟩
  obtain ⟨nv, hv⟩ : ∃ n, n = p.valves.length := ⟨_, rfl⟩
  obtain ⟨nl, hl⟩ : ∃ n, n = p.lines.length := ⟨_, rfl⟩
  obtain ⟨nn, hnv⟩ : ∃ n, n = p.never.length := ⟨_, rfl⟩
  rw [← ht] at c0 hnt
  rw [← hv] at c1
  rw [← hl] at c2 hnl
  rw [← hnv] at c3 hnn
  have hnv' : nv ≤ 9223372036854775807 := by omega
  have HT := Lib.hid ht
  have HV := Lib.hid hv
  have HL := Lib.hid hl
  have HN := Lib.hid hnv
  clear ht hv hl hnv
  go_enter Tryz.func13, Tryz.ntmps13
  go_upto_block 0 with (fail)
  rw [← HW.out]
  go_upto_block 0 with (fail)
  go_cut [3, 4] (fun n _ w' => (∃ z : Int, n = .int .i64 z) ∧ W = w')
  case first =>
    go_wp2_with fail
    go_loopw [3, 4] (fun n i wr => ∃ (z : Int) (k : Nat), n = .int .i64 z ∧ i = .int .i64 k ∧ k ≤ nl ∧ k ≤ 40 ∧ W = wr) (fun _ i _ => 40 - (intOf i).toNat)
    case atStart => exact ⟨_, 0, rfl, rfl, by omega, by omega, rfl⟩
    case round =>
      obtain ⟨z, k, rfl, rfl, hk, hk40, rfl⟩ := hrel
      by_cases hlt : k < nl ∧ k < 40
      · obtain ⟨h1, h2⟩ := hlt
        have h1i : (k : Int) < (nl : Int) := by omega
        have h2i : (k : Int) < 40 := by omega
        have h0i : (0 : Int) ≤ (k : Int) := by omega
        obtain ⟨b, off, hA, hB, q0, q1, q2, q3, q4⟩ := HP.out.lines.at5 (show k < p.lines.length by rw [← HL.out]; exact h1)
        simp only [lineC] at q4
        rw [hA] at c2
        clear q0 q1 q2 q3 hA
        go_wp2_with fail
        go_roundw
        case rel => exact ⟨_, k + 1, rfl, by go_num, by omega, by omega, trivial⟩
        case measure => simp [intOf]; omega
      · by_cases h1 : k < nl
        · obtain rfl : k = 40 := by omega
          have h1i : (40 : Int) < (nl : Int) := by omega
          go_wp2_with fail
          go_meet
          case rel => exact ⟨⟨_, rfl⟩, rfl⟩
        · have h1i : (nl : Int) ≤ (k : Int) := by omega
          go_wp2_with fail
          go_meet
          case rel => exact ⟨⟨_, rfl⟩, rfl⟩
  case rest =>
    obtain ⟨⟨z0, rfl⟩, rfl⟩ := hcut
    go_upto_block 2 with (fail)
    go_cut [3, 5] (fun n _ w' => (∃ z : Int, n = .int .i64 z) ∧ W = w')
    case first =>
      go_wp2_with fail
      go_loopw [3, 5] (fun n i wr => ∃ (z : Int) (k : Nat), n = .int .i64 z ∧ i = .int .i64 k ∧ k ≤ nn ∧ k ≤ 40 ∧ W = wr) (fun _ i _ => 40 - (intOf i).toNat)
      case atStart => exact ⟨_, 0, rfl, rfl, by omega, by omega, rfl⟩
      case round =>
        obtain ⟨z, k, rfl, rfl, hk, hk40, rfl⟩ := hrel
        by_cases hlt : k < nn ∧ k < 40
        · obtain ⟨h1, h2⟩ := hlt
          have h1i : (k : Int) < (nn : Int) := by omega
          have h2i : (k : Int) < 40 := by omega
          have h0i : (0 : Int) ≤ (k : Int) := by omega
          obtain ⟨b, off, hA, hB, q0⟩ := HP.out.never.at1 (show k < p.never.length by rw [← HN.out]; exact h1)
          rw [hA] at c3
          clear hA
          go_wp2_with fail
          go_roundw
          case rel => exact ⟨_, k + 1, rfl, by go_num, by omega, by omega, trivial⟩
          case measure => simp [intOf]; omega
        · by_cases h1 : k < nn
          · obtain rfl : k = 40 := by omega
            have h1i : (40 : Int) < (nn : Int) := by omega
            go_wp2_with fail
            go_meet
            case rel => exact ⟨⟨_, rfl⟩, rfl⟩
          · have h1i : (nn : Int) ≤ (k : Int) := by omega
            go_wp2_with fail
            go_meet
            case rel => exact ⟨⟨_, rfl⟩, rfl⟩
    case rest =>
      obtain ⟨⟨z1, rfl⟩, rfl⟩ := hcut
      go_upto_block 4 with (fail)
      go_cut [3, 6] (fun n _ w' => (∃ z : Int, n = .int .i64 z) ∧ W = w')
      case first =>
        go_wp2_with fail
        go_loopw [3, 6] (fun n i wr => ∃ (z : Int) (k : Nat), n = .int .i64 z ∧ i = .int .i64 k ∧ k ≤ nt ∧ k ≤ 20 ∧ W = wr) (fun _ i _ => 20 - (intOf i).toNat)
        case atStart => exact ⟨_, 0, rfl, rfl, by omega, by omega, rfl⟩
        case round =>
          obtain ⟨z, k, rfl, rfl, hk, hk40, rfl⟩ := hrel
          by_cases hlt : k < nt ∧ k < 20
          · obtain ⟨h1, h2⟩ := hlt
            have h1i : (k : Int) < (nt : Int) := by omega
            have h2i : (k : Int) < 20 := by omega
            have h0i : (0 : Int) ≤ (k : Int) := by omega
            obtain ⟨b, off, hA, hB, q0, q1, q2, q3⟩ := HP.out.tanks.at4 (show k < p.tanks.length by rw [← HT.out]; exact h1)
            simp only [tankC] at q0
            rw [hA] at c0
            clear q1 q2 q3 hA
            go_wp2_with fail
            go_roundw
            case rel => exact ⟨_, k + 1, rfl, by go_num, by omega, by omega, trivial⟩
            case measure => simp [intOf]; omega
          · by_cases h1 : k < nt
            · obtain rfl : k = 20 := by omega
              have h1i : (20 : Int) < (nt : Int) := by omega
              go_wp2_with fail
              go_meet
              case rel => exact ⟨⟨_, rfl⟩, rfl⟩
            · have h1i : (nt : Int) ≤ (k : Int) := by omega
              go_wp2_with fail
              go_meet
              case rel => exact ⟨⟨_, rfl⟩, rfl⟩
      case rest =>
        obtain ⟨⟨z2, rfl⟩, rfl⟩ := hcut
        go_upto_block 6 with (fail)
        go_cut [3, 7] (fun n _ w' => (∃ z : Int, n = .int .i64 z) ∧ W = w')
        case first =>
          go_wp2_with fail
          go_loopw [3, 7] (fun n i wr => ∃ (z : Int) (k : Nat), n = .int .i64 z ∧ i = .int .i64 k ∧ k ≤ nv ∧ k ≤ 20 ∧ W = wr) (fun _ i _ => 20 - (intOf i).toNat)
          case atStart => exact ⟨_, 0, rfl, rfl, by omega, by omega, rfl⟩
          case round =>
            obtain ⟨z, k, rfl, rfl, hk, hk40, rfl⟩ := hrel
            by_cases hlt : k < nv ∧ k < 20
            · obtain ⟨h1, h2⟩ := hlt
              have h1i : (k : Int) < (nv : Int) := by omega
              have h2i : (k : Int) < 20 := by omega
              have h0i : (0 : Int) ≤ (k : Int) := by omega
              obtain ⟨b, off, hA, hB, q0, q1, q2⟩ := HP.out.valves.at3 (show k < p.valves.length by rw [← HV.out]; exact h1)
              simp only [valveC] at q0
              rw [hA] at c1
              clear q1 q2 hA
              go_wp2_with fail
              go_roundw
              case rel => exact ⟨_, k + 1, rfl, by go_num, by omega, by omega, trivial⟩
              case measure => simp [intOf]; omega
            · by_cases h1 : k < nv
              · obtain rfl : k = 20 := by omega
                have h1i : (20 : Int) < (nv : Int) := by omega
                go_wp2_with fail
                go_meet
                case rel => exact ⟨⟨_, rfl⟩, rfl⟩
              · have h1i : (nv : Int) ≤ (k : Int) := by omega
                go_wp2_with fail
                go_meet
                case rel => exact ⟨⟨_, rfl⟩, rfl⟩
        case rest =>
          obtain ⟨⟨z3, rfl⟩, rfl⟩ := hcut
          go_wp2_with fail
          all_goals
            go_ret
            refine ⟨_, rfl, Lib.hid ?_, HB.out⟩
            first
              | exact fun h => Bool.noConfusion h
              | (intro _
                 unfold NotGreat
                 rw [← HT.out, ← HV.out, ← HL.out, ← HN.out]
                 omega)
end Go.Proofs.YtogobjmmgjfjjaaGreat
/- What is proved: contracts of Wanted and Holds of engine.System, and of ullagelaw07.does. Conditions: the system lies in memory. -/
namespace Go.Proofs.YtogobjmmgjfjjaaGreat
open Go.RowKit
end Go.Proofs.YtogobjmmgjfjjaaGreat
