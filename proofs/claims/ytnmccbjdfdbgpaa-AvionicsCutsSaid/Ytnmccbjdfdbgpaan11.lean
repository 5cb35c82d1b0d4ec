/- What is proved: the texts Be Bp Bq, one behind the other; each says at its head what it proves, and under which conditions. -/
import Derived.BigQuiet
import Derived.Test.Ytnmccbjdfdbgpaan10
/- What is proved: what the program's council decides is what the plain model of an agreement decides. Conditions: those that each lemma states. -/
namespace Go.Proofs.Ytnmccbjdfdbgpaa
open Go.RowKit

theorem hasB_iff {l : List Int} {x : Int} : hasB l x = true ↔ x ∈ l := by
  unfold hasB
  constructor
  · intro h
    apply Classical.byContradiction; intro hn
    have : allN l.length (fun i => !decide (getI l i = x)) = true := allN_iff.2 fun i hi => by
      have : getI l i ≠ x := fun e => hn (e ▸ getI_mem hi)
      simp [this]
    rw [this] at h; cases h
  · intro h
    obtain ⟨i, hi, e⟩ := List.getElem_of_mem h
    have hne : ¬ allN l.length (fun i => !decide (getI l i = x)) = true := fun ha => by
      have := allN_iff.1 ha i hi
      have e2 : getI l i = x := by unfold getI; rw [List.getD_eq_getElem?_getD, List.getElem?_eq_getElem hi]; exact e
      rw [e2] at this; simp at this
    cases hb : allN l.length (fun i => !decide (getI l i = x)) with
    | true => exact absurd hb hne
    | false => rfl
def upI (p : List Nat) : List Int := p.map fun (j : Nat) => (j : Int)
theorem mem_upI {p : List Nat} {j : Nat} : (j : Int) ∈ upI p ↔ j ∈ p := by
  unfold upI
  rw [List.mem_map]
  constructor
  · rintro ⟨a, h, e⟩
    have : a = j := by omega
    subst this; exact h
  · intro h; exact ⟨j, h, rfl⟩
theorem upI_len (p : List Nat) : (upI p).length = p.length := by unfold upI; simp
def talkD (N F : Nat) (fl : List Int) (frame : Int) (lies : List LieD) (value : Int) : TalkD :=
  ⟨N, F, fun j => hasB fl j, fun p i => (lieB lies frame (upI p).reverse i).getD 0, value⟩
theorem hear_link {N F : Nat} {fl : List Int} {frame : Int} {lies : List LieD} {value : Int} : ∀ (p : List Nat) (i : Nat), (∀ j ∈ p, j < N) → p.length ≤ F + 1 →
    hearP (learnB N F frame lies) fl value (upI p) i = heardB (talkD N F fl frame lies value) p i
  | [], _, _, _ => rfl
  | j :: p, i, hm, hl => by
    have ih := hear_link (N := N) (F := F) (fl := fl) (frame := frame) (lies := lies) (value := value) p j (fun k hk => hm k (List.mem_cons_of_mem _ hk)) (by simp only [List.length_cons] at hl; omega)
    have hlook := learn_look (N := N) (F := F) (frame := frame) (l := lies) (p := (upI (j :: p)).reverse) (t := i) (fun x hx => by
      rw [List.mem_reverse] at hx
      obtain ⟨a, ha, rfl⟩ := List.mem_map.1 hx
      have := hm a ha
      omega) (by rw [List.length_reverse, upI_len]; simp) (by rw [List.length_reverse, upI_len]; omega)
    show (if hasB fl j = true then (lookB _ (upI (j :: p)).reverse i).getD 0 else hearP _ fl value (upI p) j) = if hasB fl j = true then (lieB lies frame (upI (j :: p)).reverse i).getD 0 else heardB _ p j
    rw [hlook, ih]
theorem rest_link {N F : Nat} {fl : List Int} {frame : Int} {lies : List LieD} {value : Int} (p : List Nat) (i : Nat) : restP (upI p) i N = restB (talkD N F fl frame lies value) p i := by
  unfold restP restB
  refine List.filter_congr fun j _ => ?_
  have h1 : decide ((j : Int) ≠ (i : Int)) = decide (j ≠ i) := by
    by_cases h : j = i
    · subst h; simp
    · rw [decide_eq_true h, decide_eq_true (by omega)]
  have h2 : hasB (upI p).reverse j = p.contains j := by
    cases hb : p.contains j with
    | true => exact hasB_iff.2 (List.mem_reverse.2 (mem_upI.2 (by simpa using hb)))
    | false =>
      cases hc : hasB (upI p).reverse j with
      | false => rfl
      | true =>
        have := mem_upI.1 (List.mem_reverse.1 (hasB_iff.1 hc))
        rw [List.contains_iff_mem.2 this] at hb; cases hb
  rw [h1, h2]
theorem held_link {N F : Nat} {fl : List Int} {frame : Int} {lies : List LieD} {value : Int} : ∀ (n : Nat) (p : List Nat) (i : Nat), (∀ j ∈ p, j < N) → n + p.length ≤ F + 1 →
    heldP (learnB N F frame lies) fl N value n (upI p) i = heldB (talkD N F fl frame lies value) n p i
  | 0, p, i, hm, hl => hear_link p i hm (by omega)
  | n + 1, p, i, hm, hl => by
    unfold heldP heldB
    rw [hear_link p i hm (by omega), rest_link (F := F) (fl := fl) (frame := frame) (lies := lies) (value := value) p i]
    refine congrArg majB (congrArg _ (List.map_congr_left fun j hj => ?_))
    have hj := (restB_mem.1 hj).1
    exact held_link n (j :: p) i (fun k hk => by
      rcases List.mem_cons.1 hk with rfl | h
      · exact hj
      · exact hm k h) (by simp only [List.length_cons]; omega)
theorem dec_link {N F : Nat} {fl : List Int} {frame : Int} {lies : List LieD} {value : Int} {g i : Nat} (hg : g < N) :
    decP (learnB N F frame lies) fl N F value g i = decideB (talkD N F fl frame lies value) g i := by
  unfold decP decideB
  have h1 := held_link (N := N) (F := F) (fl := fl) (frame := frame) (lies := lies) (value := value) F [g] i (fun j hj => by
    simp only [List.mem_cons, List.not_mem_nil, or_false] at hj
    subst hj; exact hg) (by simp)
  change heldP _ fl N value F [(g : Int)] i = _ at h1
  rw [h1]
  show (if hasB fl i = true then 0 else if (i : Int) = (g : Int) then value else _) = if hasB fl i = true then 0 else if i = g then value else _
  by_cases e : i = g
  · subst e; simp
  · rw [if_neg (by omega : ¬ (i : Int) = (g : Int)), if_neg e]; rfl
theorem bad_count {N F : Nat} {fl : List Int} {frame : Int} {lies : List LieD} {value : Int} (h : fl.length ≤ F) : badN (talkD N F fl frame lies value) ≤ F := by
  refine Nat.le_trans ?_ h
  have := nodup_sub (p := (List.range N).filter fun j => hasB fl (j : Int)) (q := fl.map Int.toNat) (List.Nodup.sublist List.filter_sublist List.nodup_range) (fun x hx => by
    rw [List.mem_filter] at hx
    exact List.mem_map.2 ⟨x, hasB_iff.1 hx.2, by simp⟩)
  rw [List.length_map] at this
  exact this
end Go.Proofs.Ytnmccbjdfdbgpaa
/- What is proved: contracts of the law's faulty and wide, and of Great. Conditions: the lists lie in memory. -/
namespace Go.Proofs.Ytnmccbjdfdbgpaa
open Go.RowKit

set_option maxRecDepth 100000 in
set_option maxHeartbeats 4000000 in
theorem lawFaulty_any (w : World) (N F : Int) (A : Option Addr) (c : Nat) (fl : List Int) (x : Int) (h : IntsAt w w.heap.size A fl) :
    Calls Try.prog 27 #[.agg #[.int .i64 N, .int .i64 F, .slice A fl.length c], .int .i64 x] w fun e w' => e = .returned (.bool (hasB fl x)) ∧ Below w.heap.size w w' := by
  have hll := h.1
  obtain ⟨qb, hqb⟩ : ∃ qb, w.heap.size = qb := ⟨_, rfl⟩
  have HQB := Lib.hid hqb
  obtain ⟨n, hn⟩ : ∃ n, fl.length = n := ⟨_, rfl⟩
  have HN := Lib.hid hn
  obtain ⟨W0, hW0⟩ : ∃ W0, w.alloc (.cells #[.int .i64 N, .int .i64 F, .slice A n c] 48) = W0 := ⟨_, rfl⟩
  have hb0 : Below w.heap.size w W0 := by rw [← hW0]; exact (Below.refl _ w).alloc (Nat.le_refl _) _
  have HB0 : Hid (Below qb w W0) := Lib.hid (by rw [← hqb]; exact hb0)
  have HK0 : Hid (Bk W0 qb 48 #[.int .i64 N, .int .i64 F, .slice A n c]) := Lib.hid (by rw [← hW0, ← hqb]; exact Bk.new _ _ _)
  have HL : Hid (IntsAt W0 w.heap.size A fl) := Lib.hid (Sl.below h hb0)
  obtain ⟨R, hR⟩ : ∃ R, hasB fl x = R := ⟨_, rfl⟩
  have HYES : Hid (∀ k, k < n → getI fl k = x → R = true) := Lib.hid fun k hk he => by rw [← hR]; exact hasB_iff.2 (by rw [← he]; exact getI_mem (by rw [hn]; exact hk))
  have HNO : Hid ((∀ k, k < n → getI fl k ≠ x) → R = false) := Lib.hid fun hk => by
    rw [← hR]
    cases hc : hasB fl x with
    | false => rfl
    | true =>
      obtain ⟨i, hi, e⟩ := List.getElem_of_mem (hasB_iff.1 hc)
      exact absurd (by unfold getI; rw [List.getD_eq_getElem?_getD, List.getElem?_eq_getElem hi]; exact e) (hk i (by rw [← hn]; exact hi))
  have HFIN : Hid (∀ (e : Ending) (w' : World), e = .returned (.bool R) → Below qb w w' → e = .returned (.bool R) ∧ Below qb w w') := Lib.hid fun _ _ a b => ⟨a, b⟩
  rw [hn] at hll ⊢
  rw [hR, hqb]
  clear h hn hR hb0
  go_enter Try.func27, Try.ntmps27
  go_upto_region 1 with (fail)
  clear hqb hW0
  have q2 : W0.cell? ⟨qb, 2, none⟩ = some (.slice A n c) := HK0.out.cell 2
  go_wp2_with fail
  go_loopw [5] (fun i wr => ∃ k : Nat, k ≤ n ∧ i = .int .i64 k ∧ wr = W0 ∧ Hid (∀ j, j < k → getI fl j ≠ x)) (fun i _ => n - (intOf i).toNat)
  case atStart => exact ⟨0, Nat.zero_le _, rfl, rfl, Lib.hid fun j hj => absurd hj (Nat.not_lt_zero j)⟩
  case round =>
    obtain ⟨k, hk, rfl, rfl, hs⟩ := hrel
    by_cases hlt : k < n
    · have hki : (k : Int) < (n : Int) := by omega
      have h0k : (0 : Int) ≤ (k : Int) := by omega
      obtain ⟨bb, off, rfl, _, d0⟩ := Sl.at1 HL.out (i := k) (by rw [HN.out]; exact hlt)
      obtain ⟨y, hy⟩ : ∃ y, getI fl k = y := ⟨_, rfl⟩
      have HY := Lib.hid hy
      try dsimp only at d0
      rw [hy] at d0
      clear hy
      by_cases he : y = x
      · subst he
        have HR : Hid (R = true) := Lib.hid (HYES.out k hlt HY.out)
        go_wp2_with fail
        go_ret
        exact HFIN.out _ _ (by rw [HR.out]; rfl) HB0.out
      · go_wp2_with fail
        go_roundw
        case rel => exact ⟨k + 1, by omega, by go_num, trivial, Lib.hid fun j hj => by
          by_cases e : j = k
          · subst e; rw [HY.out]; exact he
          · exact hs.out j (by omega)⟩
        case measure => simp [intOf]; omega
    · obtain rfl : k = n := by omega
      have HR : Hid (R = false) := Lib.hid (HNO.out hs.out)
      go_wp2_with fail
      go_ret
      exact HFIN.out _ _ (by rw [HR.out]; rfl) HB0.out
/-- A call that says yes or no, and makes only memory. -/
def AnyB (w : World) (e : Ending) (w' : World) : Prop := ∃ b, e = .returned (.bool b) ∧ Below w.heap.size w w'
set_option maxRecDepth 100000 in
set_option maxHeartbeats 4000000 in
theorem great_any (w : World) (A : Option Addr) (c : Nat) (l : List LieD) (h : LiesAt w w.heap.size A l) :
    Calls Try.prog 24 #[.slice A l.length c] w (AnyB w) := by
  have hll := h.len
  obtain ⟨P, cc, hs0, _⟩ := h.sl
  have HL := Lib.hid hs0
  obtain ⟨n, hn⟩ : ∃ n, l.length = n := ⟨_, rfl⟩
  have HN := Lib.hid hn
  have HFIN : Hid (∀ (b : Bool), AnyB w (.returned (.bool b)) w) := Lib.hid fun b => ⟨b, rfl, Below.refl _ _⟩
  obtain ⟨JP, hJP⟩ : ∃ Q, AnyB w = Q := ⟨_, rfl⟩
  rw [hJP] at HFIN ⊢
  rw [hn] at hll ⊢
  clear h hs0 hn hJP
  go_enter Try.func24, Try.ntmps24
  go_wp2_with fail
  go_loopw [3, 4] (fun v i wr => ∃ k : Nat, k ≤ n ∧ i = .int .i64 k ∧ wr = w ∧ ∃ x, v = .int .i64 x) (fun _ i _ => n - (intOf i).toNat)
  case atStart => exact ⟨0, Nat.zero_le _, rfl, rfl, 0, rfl⟩
  case round =>
    obtain ⟨k, hk, rfl, rfl, x, rfl⟩ := hrel
    by_cases hlt : k < n
    · have hki : (k : Int) < (n : Int) := by omega
      have h0k : (0 : Int) ≤ (k : Int) := by omega
      by_cases h11 : k < 1100
      · have h11i : (k : Int) < 1100 := by omega
        obtain ⟨bb, off, rfl, _, d0, d1, d2, d3⟩ := Sl.at4 HL.out (i := k) (by rw [HN.out]; exact hlt)
        change wr.cell? _ = some (.slice (P k) (lieAt l k).path.length (cc k)) at d1
        clear d0 d2 d3
        go_wp2_with fail
        go_roundw
        case rel => exact ⟨k + 1, by omega, by go_num, trivial, _, rfl⟩
        case measure => simp [intOf]; omega
      · have h11i : ¬ (k : Int) < 1100 := by omega
        go_wp2_with fail
        exact HFIN.out _
    · have hki : ¬ (k : Int) < (n : Int) := by omega
      go_wp2_with fail
      exact HFIN.out _
set_option maxRecDepth 100000 in
set_option maxHeartbeats 4000000 in
theorem wide_any (w : World) (A : Option Addr) (c : Nat) (vs : List (List Int)) (h : RowsAt w w.heap.size A vs) :
    Calls Try.prog 28 #[.slice A vs.length c] w (AnyB w) := by
  have hll := h.len
  obtain ⟨P, cc, hs0, _⟩ := h.sl
  have HL := Lib.hid hs0
  obtain ⟨n, hn⟩ : ∃ n, vs.length = n := ⟨_, rfl⟩
  have HN := Lib.hid hn
  have HFIN : Hid (∀ (b : Bool), AnyB w (.returned (.bool b)) w) := Lib.hid fun b => ⟨b, rfl, Below.refl _ _⟩
  obtain ⟨JP, hJP⟩ : ∃ Q, AnyB w = Q := ⟨_, rfl⟩
  rw [hJP] at HFIN ⊢
  rw [hn] at hll ⊢
  clear h hs0 hn hJP
  go_enter Try.func28, Try.ntmps28
  go_wp2_with fail
  go_loopw [3] (fun i wr => ∃ k : Nat, k ≤ n ∧ i = .int .i64 k ∧ wr = w) (fun i _ => n - (intOf i).toNat)
  case atStart => exact ⟨0, Nat.zero_le _, rfl, rfl⟩
  case round =>
    obtain ⟨k, hk, rfl, rfl⟩ := hrel
    by_cases hlt : k < n
    · have hki : (k : Int) < (n : Int) := by omega
      have h0k : (0 : Int) ≤ (k : Int) := by omega
      obtain ⟨bb, off, rfl, _, d0⟩ := Sl.at1 HL.out (i := k) (by rw [HN.out]; exact hlt)
      try dsimp only at d0
      obtain ⟨m, hm⟩ : ∃ m, (rowAt vs k).length = m := ⟨_, rfl⟩
      rw [hm] at d0
      clear hm
      by_cases h20 : 20 < m
      · have h20i : (20 : Int) < (m : Int) := by omega
        go_wp2_with fail
        exact HFIN.out _
      · have h20i : ¬ (20 : Int) < (m : Int) := by omega
        go_wp2_with fail
        go_roundw
        case rel => exact ⟨k + 1, by omega, by go_num, trivial⟩
        case measure => simp [intOf]; omega
    · have hki : ¬ (k : Int) < (n : Int) := by omega
      go_wp2_with fail
      exact HFIN.out _
end Go.Proofs.Ytnmccbjdfdbgpaa
/- What is proved: AvionicsTogether returns true, and makes only memory. Conditions: the council and the lies lie in memory. -/
namespace Go.Proofs.Ytnmccbjdfdbgpaa
open Go.RowKit

theorem agree_err {N F g v : Int} {fl : List Int} {l : List LieD} (h : ¬ (agreeB N F fl g v l).2 = 0) : (agreeB N F fl g v l).1 = [] := by
  unfold agreeB at h ⊢
  split
  · rfl
  · rename_i h1; rw [if_neg h1] at h
    split
    · rfl
    · rename_i h2; rw [if_neg h2] at h; exact absurd rfl h
/-- What the decisions of a valid council are like. -/
structure AgreeOk (N F g v : Int) (fl : List Int) (out : List Int) (Nn Fn gn : Nat) : Prop where
  N : N = Nn
  F : F = Fn
  g : g = gn
  gl : gn < Nn
  b : 1 ≤ Nn ∧ Nn ≤ 7
  len : out.length = Nn
  bad : ∀ i : Nat, i < Nn → hasB fl i = true → getI out i = 0
  same : ∀ i j : Nat, i < Nn → j < Nn → hasB fl i = false → hasB fl j = false → getI out i = getI out j
  own : hasB fl gn = false → ∀ i : Nat, i < Nn → hasB fl i = false → getI out i = v
theorem agree_ok {N F g v : Int} {fl : List Int} {l : List LieD} (h : (agreeB N F fl g v l).2 = 0) : ∃ Nn Fn gn, AgreeOk N F g v fl (agreeB N F fl g v l).1 Nn Fn gn := by
  unfold agreeB at h ⊢
  split
  · rename_i h1; rw [if_pos h1] at h; cases h
  · rename_i h1; rw [if_neg h1] at h
    split
    · rename_i h2; rw [if_pos h2] at h; cases h
    · have h3 : councilB N F fl = true ∧ inB g 0 (N - 1) = true := by simpa using h1
      obtain ⟨c1, c2, c3, c4, c5, c6, _⟩ := council_ok h3.1
      have hg := inB_iff.1 h3.2
      obtain ⟨Nn, rfl⟩ : ∃ Nn : Nat, N = Nn := ⟨N.toNat, by omega⟩
      obtain ⟨Fn, rfl⟩ : ∃ Fn : Nat, F = Fn := ⟨F.toNat, by omega⟩
      obtain ⟨gn, rfl⟩ : ∃ gn : Nat, g = gn := ⟨g.toNat, by omega⟩
      have hgl : gn < Nn := by omega
      rw [Int.toNat_natCast, Int.toNat_natCast]
      have hD : ∀ i : Nat, i < Nn → getI ((List.range Nn).map (decP (learnB Nn Fn 0 l) fl Nn Fn v gn)) i = decideB (talkD Nn Fn fl 0 l v) gn i := fun i hi => by
        rw [mapI_get _ hi, dec_link hgl]
      have hb : badN (talkD Nn Fn fl 0 l v) ≤ Fn := bad_count (by omega)
      have h3F : 3 * (talkD Nn Fn fl 0 l v).F < (talkD Nn Fn fl 0 l v).N := by show 3 * Fn < Nn; omega
      refine ⟨Nn, Fn, gn, rfl, rfl, rfl, hgl, by omega, by simp, fun i hi hbi => ?_, fun i j hi hj hbi hbj => ?_, fun hgb i hi hbi => ?_⟩
      · rw [hD i hi]; unfold decideB
        rw [if_pos (show (talkD Nn Fn fl 0 l v).bad i = true from hbi)]
      · rw [hD i hi, hD j hj]
        exact decide_same h3F hb hgl hi hj hbi hbj
      · rw [hD i hi]
        exact decide_good h3F hb hgl hi hgb hbi
set_option maxRecDepth 100000 in
set_option maxHeartbeats 16000000 in
theorem together_any (w : World) (N F : Int) (Af : Option Addr) (cf : Nat) (fl : List Int) (hf : IntsAt w w.heap.size Af fl) (_hN : Wd N) (_hF : Wd F) (_hw : ∀ n ∈ fl, Wd n)
    (A : Option Addr) (c : Nat) (l : List LieD) (hl : LiesAt w w.heap.size A l) (g v : Int) (_hg : Wd g) (_hv : Wd v) :
    Calls Try.prog 7 #[.agg #[.int .i64 N, .int .i64 F, .slice Af fl.length cf], .slice A l.length c, .agg #[.int .i64 g, .int .i64 v]] w fun e w' => e = .returned (.bool true) ∧ Below w.heap.size w w' := by
  clear _hN _hF _hw _hg _hv
  have hll := hl.len
  have hfl := hf.1
  obtain ⟨qb, hqb⟩ : ∃ qb, w.heap.size = qb := ⟨_, rfl⟩
  have HQB := Lib.hid hqb
  have HTR : Hid (∀ a b, Below qb w a → Below a.heap.size a b → Below qb w b) := Lib.hid fun _ _ h1 h2 => h1.trans (h2.mono (by rw [← hqb]; exact h1.size))
  have HFIN : Hid (∀ (e : Ending) (w' : World), e = .returned (.bool true) → Below qb w w' → e = .returned (.bool true) ∧ Below qb w w') := Lib.hid fun _ _ a b => ⟨a, b⟩
  have HAG := Lib.hid fun (w1 : World) (hb : Below qb w w1) => agree_any w1 N F Af cf fl g v A c l (Sl.mono (Sl.below hf (by rw [hqb]; exact hb)) hb.size) ((hl.below (by rw [hqb]; exact hb)).mono hb.size)
  have HGR := Lib.hid fun (w1 : World) (hb : Below qb w w1) => great_any w1 A c l ((hl.below (by rw [hqb]; exact hb)).mono hb.size)
  have HFA := Lib.hid fun (w1 : World) (hb : Below qb w w1) (x : Int) => lawFaulty_any w1 N F Af cf fl x (Sl.mono (Sl.below hf (by rw [hqb]; exact hb)) hb.size)
  obtain ⟨nl, hnl⟩ : ∃ nl, l.length = nl := ⟨_, rfl⟩
  obtain ⟨nf, hnf⟩ : ∃ nf, fl.length = nf := ⟨_, rfl⟩
  have HER := Lib.hid (agree_err (N := N) (F := F) (g := g) (v := v) (fl := fl) (l := l))
  have HOK := Lib.hid (agree_ok (N := N) (F := F) (g := g) (v := v) (fl := fl) (l := l))
  obtain ⟨R, hR⟩ : ∃ R, agreeB N F fl g v l = R := ⟨_, rfl⟩
  rw [hR] at HER HOK HAG
  obtain ⟨W0, hW0⟩ : ∃ W0, (w.alloc (.cells #[.int .i64 N, .int .i64 F, .slice Af nf cf] 48)).alloc (.cells #[.int .i64 g, .int .i64 v] 23) = W0 := ⟨_, rfl⟩
  have HB0 : Hid (Below qb w W0) := Lib.hid (by rw [← hW0, ← hqb]; exact ((Below.refl _ w).alloc (Nat.le_refl _) _).alloc (by simp) _)
  have HK0 : Hid (Bk W0 qb 48 #[.int .i64 N, .int .i64 F, .slice Af nf cf]) := Lib.hid (by rw [← hW0, ← hqb]; exact (Bk.new _ _ _).alloc _)
  have HQ0 : Hid (Bk W0 (qb + 1) 23 #[.int .i64 g, .int .i64 v]) := Lib.hid (by rw [← hW0, ← hqb]; exact Bk.newAt _ _ _ _ (by simp))
  rw [hnl] at hll HAG HGR ⊢
  rw [hnf] at hfl HAG HFA ⊢
  rw [hqb]
  clear hf hl hnl hnf hR
  go_enter Try.func7, Try.ntmps7
  go_upto_region 1 with (fail)
  clear hqb hW0
  have k2 : W0.cell? ⟨qb, 2, none⟩ = some (.slice Af nf cf) := HK0.out.cell 2
  by_cases h11 : 1100 < nl
  · have h11i : (1100 : Int) < (nl : Int) := by omega
    go_wp2_with fail
    refine (awake_any _).mono ?_
    rintro e w1 ⟨rfl, hb1⟩
    go_wp2_with fail
    go_ret
    exact HFIN.out _ _ rfl (HTR.out _ _ HB0.out hb1)
  have h11i : ¬ (1100 : Int) < (nl : Int) := by omega
  go_wp2_with fail
  refine (HGR.out _ HB0.out).mono ?_
  rintro e w1 ⟨b, rfl, hb1⟩
  have HB1 := Lib.hid (HTR.out _ _ HB0.out hb1)
  have HK1 := Lib.hid (HK0.out.below hb1 HK0.out.lt)
  have HQ1 := Lib.hid (HQ0.out.below hb1 HQ0.out.lt)
  clear hb1 k2 HGR
  have k2 : w1.cell? ⟨qb, 2, none⟩ = some (.slice Af nf cf) := HK1.out.cell 2
  cases b with
  | true =>
    go_wp2_with fail
    refine (awake_any _).mono ?_
    rintro e w2 ⟨rfl, hb2⟩
    go_wp2_with fail
    go_ret
    exact HFIN.out _ _ rfl (HTR.out _ _ HB1.out hb2)
  | false =>
  by_cases h20 : 20 < nf
  · have h20i : (20 : Int) < (nf : Int) := by omega
    go_wp2_with fail
    refine (awake_any _).mono ?_
    rintro e w2 ⟨rfl, hb2⟩
    go_wp2_with fail
    go_ret
    exact HFIN.out _ _ rfl (HTR.out _ _ HB1.out hb2)
  have h20i : ¬ (20 : Int) < (nf : Int) := by omega
  have k0 : w1.cell? ⟨qb, 0, none⟩ = some (.int .i64 N) := HK1.out.cell 0
  have k1 : w1.cell? ⟨qb, 1, none⟩ = some (.int .i64 F) := HK1.out.cell 1
  have q0 : w1.cell? ⟨qb + 1, 0, none⟩ = some (.int .i64 g) := HQ1.out.cell 0
  have q1 : w1.cell? ⟨qb + 1, 1, none⟩ = some (.int .i64 v) := HQ1.out.cell 1
  go_wp2_with fail
  refine (HAG.out _ HB1.out).mono ?_
  rintro e w2 ⟨A2, c2, rfl, hcl2, hb2⟩
  have HB2 := Lib.hid (HTR.out _ _ HB1.out hb2)
  have HK2 := Lib.hid (HK1.out.below hb2 HK1.out.lt)
  have HQ2 := Lib.hid (HQ1.out.below hb2 HQ1.out.lt)
  have HO2 : Hid (IntsAt w2 w2.heap.size A2 R.1) := Lib.hid hcl2.sl
  obtain ⟨er, her⟩ : ∃ er, R.2 = er := ⟨_, rfl⟩
  rw [her] at HER HOK
  rw [her]
  clear hb2 hcl2 k0 k1 k2 q0 q1 her HAG
  by_cases he : er = 0
  case neg =>
    rw [show R.1.length = 0 from by rw [HER.out he]; rfl]
    go_wp2_with fail
    refine (awake_any _).mono ?_
    rintro e w3 ⟨rfl, hb3⟩
    go_wp2_with fail
    go_ret
    exact HFIN.out _ _ rfl (HTR.out _ _ HB2.out hb3)
  subst he
  obtain ⟨Nn, Fn, gn, hok⟩ := HOK.out rfl
  obtain ⟨rfl, rfl, rfl⟩ := And.intro hok.N (And.intro hok.F hok.g)
  have HAO := Lib.hid hok
  have hlen := hok.len
  have hNb := hok.b
  rw [hlen]
  have k0 : w2.cell? ⟨qb, 0, none⟩ = some (.int .i64 Nn) := HK2.out.cell 0
  obtain ⟨out, hout⟩ : ∃ out, R.1 = out := ⟨_, rfl⟩
  rw [hout] at HO2 HAO
  have HLO : Hid (out.length = Nn) := Lib.hid (by rw [← hout]; exact hlen)
  clear hok hlen hout HER HOK
  go_wp2_with fail
  go_loopw [9, 10] (fun fi i wr => ∃ k : Nat, k ≤ Nn ∧ i = .int .i64 k ∧ Hid (Below w2.heap.size w2 wr) ∧ ((fi = .int .i64 (-1) ∧ Hid (∀ j : Nat, j < k → hasB fl j = true)) ∨ ∃ f : Nat, f < k ∧ fi = .int .i64 f ∧ hasB fl f = false)) (fun _ i _ => Nn - (intOf i).toNat)
  case atStart => exact ⟨0, Nat.zero_le _, rfl, Lib.hid (Below.refl _ _), Or.inl ⟨rfl, Lib.hid fun j hj => absurd hj (Nat.not_lt_zero j)⟩⟩
  case round =>
    obtain ⟨k, hk, rfl, hs, hfi⟩ := hrel
    have HBR := Lib.hid (HTR.out _ _ HB2.out hs.out)
    have HKR := Lib.hid (HK2.out.below hs.out HK2.out.lt)
    have HQR := Lib.hid (HQ2.out.below hs.out HQ2.out.lt)
    have HOR : Hid (IntsAt wr w2.heap.size A2 out) := Lib.hid (Sl.below HO2.out hs.out)
    clear k0
    have k0 : wr.cell? ⟨qb, 0, none⟩ = some (.int .i64 Nn) := HKR.out.cell 0
    by_cases hlt : k < Nn
    · have hki : (k : Int) < (Nn : Int) := by omega
      have h0k : (0 : Int) ≤ (k : Int) := by omega
      have k1 : wr.cell? ⟨qb, 1, none⟩ = some (.int .i64 Fn) := HKR.out.cell 1
      have k2 : wr.cell? ⟨qb, 2, none⟩ = some (.slice Af nf cf) := HKR.out.cell 2
      obtain ⟨bk, hbk⟩ : ∃ bk, hasB fl k = bk := ⟨_, rfl⟩
      have HFK := Lib.hid (HFA.out wr HBR.out k)
      have HBKE := Lib.hid hbk
      rw [hbk] at HFK
      clear hbk
      go_wp2_with fail
      refine HFK.out.mono ?_
      rintro e w3 ⟨rfl, hb3⟩
      have HB3 := Lib.hid (hs.out.trans (hb3.mono hs.out.size))
      have HBR3 := Lib.hid (HTR.out _ _ HBR.out hb3)
      have HK3 := Lib.hid (HKR.out.below hb3 HKR.out.lt)
      have HQ3 := Lib.hid (HQR.out.below hb3 HQR.out.lt)
      obtain ⟨bb, off, hA2, hbb, d0⟩ := Sl.at1 (Sl.below HO2.out HB3.out) (i := k) (by rw [HLO.out]; exact hlt)
      try dsimp only at d0
      clear hb3 HFK k0 k1 k2
      cases bk with
      | true =>
        rw [HAO.out.bad k hlt HBKE.out] at d0
        subst hA2
        go_wp2_with fail
        go_roundw
        case rel => exact ⟨k + 1, by omega, by go_num, HB3, by
          rcases hfi with ⟨h1, h2⟩ | ⟨f, h1, h2, h3⟩
          · exact Or.inl ⟨h1, Lib.hid fun j hj => by
              by_cases e : j = k
              · subst e; exact HBKE.out
              · exact h2.out j (by omega)⟩
          · exact Or.inr ⟨f, by omega, h2, h3⟩⟩
        case measure => simp [intOf]; omega
      | false =>
        obtain ⟨d, hd⟩ : ∃ d, getI out k = d := ⟨_, rfl⟩
        rw [hd] at d0
        have HD := Lib.hid hd
        subst hA2
        clear hd
        rcases hfi with ⟨h1, _⟩ | ⟨f, hfk, h1, hff⟩
        · subst h1
          have HFG := Lib.hid fun x : Ext w3 => HFA.out x.w (HTR.out _ _ HBR3.out x.h) gn
          have kx0 : ∀ x : Ext w3, x.w.cell? ⟨qb, 0, none⟩ = some (.int .i64 Nn) := Ext.cell (HK3.out.cell 0)
          have kx1 : ∀ x : Ext w3, x.w.cell? ⟨qb, 1, none⟩ = some (.int .i64 Fn) := Ext.cell (HK3.out.cell 1)
          have kx2 : ∀ x : Ext w3, x.w.cell? ⟨qb, 2, none⟩ = some (.slice Af nf cf) := Ext.cell (HK3.out.cell 2)
          have qx0 : ∀ x : Ext w3, x.w.cell? ⟨qb + 1, 0, none⟩ = some (.int .i64 gn) := Ext.cell (HQ3.out.cell 0)
          have qx1 : ∀ x : Ext w3, x.w.cell? ⟨qb + 1, 1, none⟩ = some (.int .i64 v) := Ext.cell (HQ3.out.cell 1)
          have dx0 : ∀ x : Ext w3, x.w.cell? ⟨bb, off + k, none⟩ = some (.int .i64 d) := Ext.cell d0
          obtain ⟨bg, hbg⟩ : ∃ bg, hasB fl gn = bg := ⟨_, rfl⟩
          have HOWN : Hid (bg = false → d = v) := Lib.hid fun h => by rw [← HD.out]; exact HAO.out.own (hbg.trans h) k hlt HBKE.out
          rw [hbg] at HFG
          clear hbg d0
          cases bg with
          | true =>
            go_wp2_with fail
            refine wp_region_ext_quiet (by kernel_rfl) (by kernel_rfl) ?_
            repeat (go_big_quiet_step ((go_at_call 27; exact Ext.calls (HFG.out _))))
            refine wpQuiet_nil ?_
            intro w4 hb4
            go_wp2_with fail
            go_roundw
            case rel => exact ⟨k + 1, by omega, by go_num, Lib.hid (HB3.out.trans (hb4.mono HB3.out.size)), Or.inr ⟨k, by omega, rfl, HBKE.out⟩⟩
            case measure => simp [intOf]; omega
          | false =>
            have hdv := HOWN.out rfl
            subst hdv
            go_wp2_with fail
            refine wp_region_ext_quiet (by kernel_rfl) (by kernel_rfl) ?_
            repeat (go_big_quiet_step ((go_at_call 27; exact Ext.calls (HFG.out _))))
            refine wpQuiet_nil ?_
            intro w4 hb4
            go_wp2_with fail
            go_roundw
            case rel => exact ⟨k + 1, by omega, by go_num, Lib.hid (HB3.out.trans (hb4.mono HB3.out.size)), Or.inr ⟨k, by omega, rfl, HBKE.out⟩⟩
            case measure => simp [intOf]; omega
        · subst h1
          have hfi1 : (f : Int) < (Nn : Int) := by omega
          have h0f : (0 : Int) ≤ (f : Int) := by omega
          obtain ⟨bb', off', hA3, _, d1⟩ := Sl.at1 (Sl.below HO2.out HB3.out) (i := f) (by rw [HLO.out]; omega)
          injection hA3 with hA3
          injection hA3 with ha hb _
          subst ha hb
          try dsimp only at d1
          rw [HAO.out.same f k (by omega) hlt hff HBKE.out, HD.out] at d1
          have HFG := Lib.hid fun x : Ext w3 => HFA.out x.w (HTR.out _ _ HBR3.out x.h) gn
          have kx0 : ∀ x : Ext w3, x.w.cell? ⟨qb, 0, none⟩ = some (.int .i64 Nn) := Ext.cell (HK3.out.cell 0)
          have kx1 : ∀ x : Ext w3, x.w.cell? ⟨qb, 1, none⟩ = some (.int .i64 Fn) := Ext.cell (HK3.out.cell 1)
          have kx2 : ∀ x : Ext w3, x.w.cell? ⟨qb, 2, none⟩ = some (.slice Af nf cf) := Ext.cell (HK3.out.cell 2)
          have qx0 : ∀ x : Ext w3, x.w.cell? ⟨qb + 1, 0, none⟩ = some (.int .i64 gn) := Ext.cell (HQ3.out.cell 0)
          have qx1 : ∀ x : Ext w3, x.w.cell? ⟨qb + 1, 1, none⟩ = some (.int .i64 v) := Ext.cell (HQ3.out.cell 1)
          have dx0 : ∀ x : Ext w3, x.w.cell? ⟨bb, off + k, none⟩ = some (.int .i64 d) := Ext.cell d0
          have dx1 : ∀ x : Ext w3, x.w.cell? ⟨bb, off + f, none⟩ = some (.int .i64 d) := Ext.cell d1
          obtain ⟨bg, hbg⟩ : ∃ bg, hasB fl gn = bg := ⟨_, rfl⟩
          have HOWN : Hid (bg = false → d = v) := Lib.hid fun h => by rw [← HD.out]; exact HAO.out.own (hbg.trans h) k hlt HBKE.out
          rw [hbg] at HFG
          clear hbg d0 d1
          cases bg with
          | true =>
            go_wp2_with fail
            refine wp_region_ext_quiet (by kernel_rfl) (by kernel_rfl) ?_
            repeat (go_big_quiet_step ((go_at_call 27; exact Ext.calls (HFG.out _))))
            refine wpQuiet_nil ?_
            intro w4 hb4
            go_wp2_with fail
            go_roundw
            case rel => exact ⟨k + 1, by omega, by go_num, Lib.hid (HB3.out.trans (hb4.mono HB3.out.size)), Or.inr ⟨f, by omega, rfl, hff⟩⟩
            case measure => simp [intOf]; omega
          | false =>
            have hdv := HOWN.out rfl
            subst hdv
            go_wp2_with fail
            refine wp_region_ext_quiet (by kernel_rfl) (by kernel_rfl) ?_
            repeat (go_big_quiet_step ((go_at_call 27; exact Ext.calls (HFG.out _))))
            refine wpQuiet_nil ?_
            intro w4 hb4
            go_wp2_with fail
            go_roundw
            case rel => exact ⟨k + 1, by omega, by go_num, Lib.hid (HB3.out.trans (hb4.mono HB3.out.size)), Or.inr ⟨f, by omega, rfl, hff⟩⟩
            case measure => simp [intOf]; omega
    · obtain rfl : k = Nn := by omega
      go_wp2_with fail
      refine (awake_any _).mono ?_
      rintro e w3 ⟨rfl, hb3⟩
      go_wp2_with fail
      go_ret
      exact HFIN.out _ _ rfl (HTR.out _ _ HBR.out hb3)
end Go.Proofs.Ytnmccbjdfdbgpaa
