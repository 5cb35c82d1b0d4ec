/- What is proved: the texts Bw Bx, one behind the other; each says at its head what it proves, and under which conditions. -/
import Derived.Test.Ytnmccbjdfdbgpaan13
/- What is proved: a contract of the document's held. Conditions: the council, the lies and the path lie in memory. -/
namespace Go.Proofs.Ytnmccbjdfdbgpaa
open Go.RowKit

theorem undTalk : ∃ fs, Try.prog.underlying 108 = some (.struct fs) := und_struct (by kernel_rfl)
theorem infoTalk : (Try.prog.info? 108).map (·.size) = some 6 := by kernel_rfl
theorem hasB_rev (p : List Nat) (j : Nat) : hasB (upI p).reverse j = p.contains j := by
  cases hb : p.contains j with
  | true => exact hasB_iff.2 (List.mem_reverse.2 (mem_upI.2 (by simpa using hb)))
  | false =>
    cases hc : hasB (upI p).reverse j with
    | false => rfl
    | true =>
      have := mem_upI.1 (List.mem_reverse.1 (hasB_iff.1 hc))
      rw [List.contains_iff_mem.2 this] at hb; cases hb
/-- What one has asked for a path, of the first k members. -/
def heldKD (t : TalkD) (n : Nat) (p : List Nat) (i k : Nat) : List Int := heardB t p i :: ((List.range k).filter fun j => decide (j ≠ i) && !p.contains j).map fun j => heldB t n (j :: p) i
theorem heldKD_no {t : TalkD} {n : Nat} {p : List Nat} {i k : Nat} (h : (decide (k ≠ i) && !p.contains k) = false) : heldKD t n p i (k + 1) = heldKD t n p i k := by
  unfold heldKD
  rw [List.range_succ, List.filter_append, List.filter_cons_of_neg (by rw [h]; decide), List.filter_nil, List.append_nil]
theorem heldKD_yes {t : TalkD} {n : Nat} {p : List Nat} {i k : Nat} (h : (decide (k ≠ i) && !p.contains k) = true) : heldKD t n p i (k + 1) = heldKD t n p i k ++ [heldB t n (k :: p) i] := by
  unfold heldKD
  rw [List.range_succ, List.filter_append, List.filter_cons_of_pos (by exact h), List.filter_nil, List.map_append]; rfl
theorem heldKD_len (t : TalkD) (n : Nat) (p : List Nat) (i k : Nat) : (heldKD t n p i k).length ≤ k + 1 := by
  unfold heldKD
  have := List.length_filter_le (fun j => decide (j ≠ i) && !p.contains j) (List.range k)
  rw [List.length_range] at this
  rw [List.length_cons, List.length_map]; omega
theorem intsV_path (j : Nat) (p : List Nat) : intsV (upI (j :: p)).reverse = intsV (upI p).reverse ++ [.int .i64 j] := by
  unfold intsV upI; simp
theorem own_ints {w : World} {B : Nat} {v : Value} {l : List Int} {n : Nat} (hl : l.length = n) (h : w.ownsRow B 3 1 v n (intsV l)) (hn : n ≤ 4096) (h0 : 0 < n) : ∃ A c, v = .slice A n c ∧ IntsAt w w.heap.size A l ∧ n ≤ c := by
  subst hl
  obtain ⟨A, c, rfl, hi⟩ := vals_row h hn
  refine ⟨A, c, rfl, hi, ?_⟩
  rcases h.2 with ⟨_, h1⟩ | ⟨g, cap, cur, e, _, _, h3, _⟩
  · omega
  · injection e with _ _ e; omega
/-- What the operations of 'append(append([]int{}, path...), j)' and of the call leave, by which are done. -/
structure HeldJ (W : World) (B : Nat) (v8 : Value) (len : Nat) (xs : List Value) (np : Nat) (ps : List Value) (jv hv : Value) (d2 d4 d6 d7 d9 d10 d11 d12 : Bool) (v2 v4 v6 v7 v10 v11 v12 : Value) (w1 : World) : Prop where
  bel : d11 = false → Below W.heap.size W w1
  r2 : d2 = true → d4 = false → w1.ownsRow W.heap.size 3 1 v2 0 [] ∧ ∃ g, v2 = .slice (some ⟨g, 0, none⟩) 0 0
  r4 : d4 = true → d7 = false → w1.ownsRow W.heap.size 3 1 v4 np ps
  r6 : d6 = true → d7 = false → ∃ g, v6 = .slice (some ⟨g, 0, none⟩) 1 1 ∧ Bk w1 g 3 #[jv]
  r7 : d7 = true → d11 = false → w1.ownsRow W.heap.size 3 1 v7 (np + 1) (ps ++ [jv])
  r10 : d10 = true → d11 = false → ∃ g, v10 = .slice (some ⟨g, 0, none⟩) 1 1 ∧ Bk w1 g 3 #[hv]
  r11 : d11 = true → ∃ w0, Below W.heap.size W w0 ∧ w1.ownsRow B 3 1 v11 (len + 1) (xs ++ [hv]) ∧ w0.grownBy w1 v8.ownBlock
  r12 : d12 = true → v12 = v11
  ch : (d7 = true → d4 = true) ∧ (d9 = true → d7 = true) ∧ (d10 = true → d9 = true)
theorem HeldJ.start (W : World) (B : Nat) (v8 : Value) (len : Nat) (xs : List Value) (np : Nat) (ps : List Value) (jv hv : Value) (v2 v4 v6 v7 v10 v11 v12 : Value) :
    HeldJ W B v8 len xs np ps jv hv false false false false false false false false v2 v4 v6 v7 v10 v11 v12 W.drew :=
  ⟨fun _ => (Below.refl _ _).drew, fun h => absurd h (by decide), fun h => absurd h (by decide), fun h => absurd h (by decide), fun h => absurd h (by decide), fun h => absurd h (by decide), fun h => absurd h (by decide), fun h => absurd h (by decide), fun h => absurd h (by decide), fun h => absurd h (by decide), fun h => absurd h (by decide)⟩
section
variable {W : World} {B : Nat} {v8 : Value} {len : Nat} {xs : List Value} {np : Nat} {ps : List Value} {jv hv : Value} {d2 d4 d6 d7 d9 d10 d11 d12 : Bool} {v2 v4 v6 v7 v10 v11 v12 : Value} {w1 w' : World}
theorem HeldJ.below (h : HeldJ W B v8 len xs np ps jv hv d2 d4 d6 d7 d9 d10 d11 d12 v2 v4 v6 v7 v10 v11 v12 w1) (h11 : d11 = false) (hb : Below w1.heap.size w1 w') : HeldJ W B v8 len xs np ps jv hv d2 d4 d6 d7 d9 d10 d11 d12 v2 v4 v6 v7 v10 v11 v12 w' :=
  ⟨fun _ => (h.bel h11).trans (hb.mono (h.bel h11).size), fun a b => ⟨World.ownsRow.of_below (h.r2 a b).1 hb, (h.r2 a b).2⟩, fun a b => World.ownsRow.of_below (h.r4 a b) hb, fun a b => by obtain ⟨g, x, y⟩ := h.r6 a b; exact ⟨g, x, y.below hb y.lt⟩,
    fun a b => World.ownsRow.of_below (h.r7 a b) hb, fun a b => by obtain ⟨g, x, y⟩ := h.r10 a b; exact ⟨g, x, y.below hb y.lt⟩, fun a => absurd a (by rw [h11]; decide), h.r12, h.ch⟩
theorem HeldJ.mk2 (h : HeldJ W B v8 len xs np ps jv hv d2 d4 d6 d7 d9 d10 d11 d12 v2 v4 v6 v7 v10 v11 v12 w1) (h11 : d11 = false) : HeldJ W B v8 len xs np ps jv hv true d4 d6 d7 d9 d10 d11 d12 (.slice (some ⟨w1.heap.size, 0, none⟩) 0 0) v4 v6 v7 v10 v11 v12 (w1.alloc (.cells #[] 3)) := by
  have k := h.below h11 ((Below.refl _ w1).alloc (Nat.le_refl _) (.cells #[] 3))
  exact ⟨k.bel, fun _ _ => ⟨World.ownsRow_made w1 #[] 0 (h.bel h11).size (Nat.zero_le _) rfl, _, rfl⟩, k.r4, k.r6, k.r7, k.r10, k.r11, k.r12, k.ch⟩
theorem HeldJ.mk6 (h : HeldJ W B v8 len xs np ps jv hv d2 d4 d6 d7 d9 d10 d11 d12 v2 v4 v6 v7 v10 v11 v12 w1) (h11 : d11 = false) : HeldJ W B v8 len xs np ps jv hv d2 d4 true d7 d9 d10 d11 d12 v2 v4 (.slice (some ⟨w1.heap.size, 0, none⟩) 1 1) v7 v10 v11 v12 (w1.alloc (.cells #[jv] 3)) := by
  have k := h.below h11 ((Below.refl _ w1).alloc (Nat.le_refl _) (.cells #[jv] 3))
  exact ⟨k.bel, k.r2, k.r4, fun _ _ => ⟨_, rfl, Bk.new _ _ _⟩, k.r7, k.r10, k.r11, k.r12, k.ch⟩
theorem HeldJ.mk10 (h : HeldJ W B v8 len xs np ps jv hv d2 d4 d6 d7 d9 d10 d11 d12 v2 v4 v6 v7 v10 v11 v12 w1) (h9 : d9 = true) (h11 : d11 = false) : HeldJ W B v8 len xs np ps jv hv d2 d4 d6 d7 d9 true d11 d12 v2 v4 v6 v7 (.slice (some ⟨w1.heap.size, 0, none⟩) 1 1) v11 v12 (w1.alloc (.cells #[hv] 3)) := by
  have k := h.below h11 ((Below.refl _ w1).alloc (Nat.le_refl _) (.cells #[hv] 3))
  exact ⟨k.bel, k.r2, k.r4, k.r6, k.r7, fun _ _ => ⟨_, rfl, Bk.new _ _ _⟩, k.r11, k.r12, k.ch.1, k.ch.2.1, fun _ => h9⟩
theorem HeldJ.mk4 (h : HeldJ W B v8 len xs np ps jv hv d2 d4 d6 d7 d9 d10 d11 d12 v2 v4 v6 v7 v10 v11 v12 w1) (h2 : d2 = true) (h4 : d4 = false) (h7 : d7 = false) (h10 : d10 = false) (h11 : d11 = false) {v' : Value}
    (hown : w'.ownsRow W.heap.size 3 1 v' np ps) (hg : w1.grownBy w' v2.ownBlock) : HeldJ W B v8 len xs np ps jv hv d2 true d6 d7 d9 d10 d11 d12 v2 v' v6 v7 v10 v11 v12 w' := by
  obtain ⟨ho, g2, e2⟩ := h.r2 h2 h4
  refine ⟨fun _ => (h.bel h11).grown hg (h.bel h11).size fun k hk => (ho.lt k hk).1, fun _ a => absurd a (by decide), fun _ _ => hown, fun a _ => ?_, fun a => absurd a (by rw [h7]; decide), fun a => absurd a (by rw [h10]; decide), fun a => absurd a (by rw [h11]; decide), h.r12, fun _ => rfl, h.ch.2⟩
  obtain ⟨g, x, y⟩ := h.r6 a h7
  refine ⟨g, x, (hg.block g y.lt ?_).trans y⟩
  rw [e2]
  rcases ho.2 with ⟨e, _⟩ | ⟨g', cap, cur, e, _, hb, _, _, hs, _⟩
  · rw [e2] at e; cases e
  · rw [e2] at e
    injection e with e e3 e4
    injection e with e
    injection e with e
    intro hc
    have hc : some g = some g2 := hc
    injection hc with hc
    subst hc e e4
    unfold Bk at y
    rw [hb] at y
    injection y with y
    injection y with y
    rw [y] at hs
    exact absurd hs (by simp)
theorem HeldJ.mk7 (h : HeldJ W B v8 len xs np ps jv hv d2 d4 d6 d7 d9 d10 d11 d12 v2 v4 v6 v7 v10 v11 v12 w1) (h4 : d4 = true) (h10 : d10 = false) (h11 : d11 = false) {v' : Value} (h7 : d7 = false)
    (hown : w'.ownsRow W.heap.size 3 1 v' (np + 1) (ps ++ [jv])) (hg : w1.grownBy w' v4.ownBlock) : HeldJ W B v8 len xs np ps jv hv d2 d4 d6 true d9 d10 d11 d12 v2 v4 v6 v' v10 v11 v12 w' :=
  ⟨fun _ => (h.bel h11).grown hg (h.bel h11).size fun k hk => ((h.r4 h4 h7).lt k hk).1, fun _ a => absurd a (by rw [h4]; decide), fun _ a => absurd a (by decide), fun _ a => absurd a (by decide), fun _ _ => hown, fun a => absurd a (by rw [h10]; decide), fun a => absurd a (by rw [h11]; decide), h.r12, fun _ => h4, fun _ => rfl, h.ch.2.2⟩
theorem HeldJ.mk11 (h : HeldJ W B v8 len xs np ps jv hv d2 d4 d6 d7 d9 d10 d11 d12 v2 v4 v6 v7 v10 v11 v12 w1) (h4 : d4 = true) (h7 : d7 = true) (h11 : d11 = false) (h12 : d12 = false) {v' : Value}
    (hown : w'.ownsRow B 3 1 v' (len + 1) (xs ++ [hv])) (hg : w1.grownBy w' v8.ownBlock) : HeldJ W B v8 len xs np ps jv hv d2 d4 d6 d7 d9 d10 true d12 v2 v4 v6 v7 v10 v' v12 w' :=
  ⟨fun a => absurd a (by decide), fun _ a => absurd a (by rw [h4]; decide), fun _ a => absurd a (by rw [h7]; decide), fun _ a => absurd a (by rw [h7]; decide), fun _ a => absurd a (by decide), fun _ a => absurd a (by decide), fun _ => ⟨w1, h.bel h11, hown, hg⟩, fun a => absurd a (by rw [h12]; decide), h.ch⟩
theorem HeldJ.mk12 (h : HeldJ W B v8 len xs np ps jv hv d2 d4 d6 d7 d9 d10 d11 d12 v2 v4 v6 v7 v10 v11 v12 w1) : HeldJ W B v8 len xs np ps jv hv d2 d4 d6 d7 d9 d10 d11 true v2 v4 v6 v7 v10 v11 v11 w1 :=
  ⟨h.bel, h.r2, h.r4, h.r6, h.r7, h.r10, h.r11, fun _ => rfl, h.ch⟩
theorem HeldJ.mk9 (h : HeldJ W B v8 len xs np ps jv hv d2 d4 d6 d7 d9 d10 d11 d12 v2 v4 v6 v7 v10 v11 v12 w1) (h7 : d7 = true) : HeldJ W B v8 len xs np ps jv hv d2 d4 d6 d7 true d10 d11 d12 v2 v4 v6 v7 v10 v11 v12 w1 :=
  ⟨h.bel, h.r2, h.r4, h.r6, h.r7, h.r10, h.r11, h.r12, h.ch.1, fun _ => h7, fun _ => rfl⟩
end
set_option maxRecDepth 100000 in
set_option maxHeartbeats 16000000 in
theorem refHeld_any (N F : Nat) (Af : Option Addr) (cf : Nat) (fl : List Int) (A : Option Addr) (c : Nat) (l : List LieD) (fr value : Int) (hN : N ≤ 7) (hF : F ≤ 2) : ∀ (n : Nat) (j : Nat) (rp : List Nat) (w : World) (Ap : Option Addr) (cp i : Nat)
    (_ : n + rp.length = F) (_ : IntsAt w w.heap.size Af fl) (_ : LiesAt w w.heap.size A l) (_ : IntsAt w w.heap.size Ap (upI (j :: rp)).reverse) (_ : rp.length + 1 ≤ cp),
    Calls Try.prog 80 #[.agg (talkA N F Af fl.length cf A l.length c fr value), .slice Ap (rp.length + 1) cp, .int .i64 i] w fun e w' => e = .returned (.int .i64 (heldB (talkD N F fl fr l value) n (j :: rp) i)) ∧ Below w.heap.size w w' := by
  intro n
  induction n with
  | zero =>
    intro j rp w Ap cp i hn hf hl hp hcp
    have hll := hl.len
    have hff := hf.1
    obtain ⟨qb, hqb⟩ : ∃ qb, w.heap.size = qb := ⟨_, rfl⟩
    obtain ⟨W0, hW0⟩ : ∃ W0, w.alloc (.cells (talkA N F Af fl.length cf A l.length c fr value) 108) = W0 := ⟨_, rfl⟩
    have hb0 : Below w.heap.size w W0 := by rw [← hW0]; exact (Below.refl _ w).alloc (Nat.le_refl _) _
    have HB0 : Hid (Below qb w W0) := Lib.hid (by rw [← hqb]; exact hb0)
    have HK0 : Hid (Bk W0 qb 108 (talkA N F Af fl.length cf A l.length c fr value)) := Lib.hid (by rw [← hW0, ← hqb]; exact Bk.new _ _ _)
    have HHE := Lib.hid (refHeard_any N F Af cf fl A c l fr value Ap cp rp j W0 i (Sl.mono (Sl.below hf hb0) hb0.size) ((hl.below hb0).mono hb0.size) (Sl.mono (Sl.below hp hb0) hb0.size) hcp (by omega))
    have HTR : Hid (∀ a b, Below qb w a → Below a.heap.size a b → Below qb w b) := Lib.hid fun _ _ h1 h2 => h1.trans (h2.mono (by rw [← hqb]; exact h1.size))
    obtain ⟨R, hR⟩ : ∃ R, heldB (talkD N F fl fr l value) 0 (j :: rp) i = R := ⟨_, rfl⟩
    have HFIN : Hid (∀ (x : Int) (w' : World), x = R → Below qb w w' → Ending.returned (.int .i64 x) = .returned (.int .i64 R) ∧ Below qb w w') := Lib.hid fun x w' h1 h2 => by subst h1; exact ⟨rfl, h2⟩
    rw [show heardB (talkD N F fl fr l value) (j :: rp) i = R from hR] at HHE
    obtain ⟨nf, hnf⟩ : ∃ nf, fl.length = nf := ⟨_, rfl⟩
    obtain ⟨nl, hnl⟩ : ∃ nl, l.length = nl := ⟨_, rfl⟩
    obtain ⟨np, hnp⟩ : ∃ np, rp.length + 1 = np := ⟨_, rfl⟩
    have hnF : (np : Int) = (F : Int) + 1 := by omega
    rw [hnf] at hff hW0 HK0 HHE ⊢
    rw [hnl] at hll hW0 HK0 HHE ⊢
    rw [hnp] at hcp HHE ⊢
    rw [hqb, hR]
    unfold talkA at hW0 HK0 HHE ⊢
    clear hn hf hl hp hnf hnl hnp hb0 hR
    go_enter Try.func80, Try.ntmps80
    go_upto_region 1 with (fail)
    clear hqb hW0
    have q0 : W0.cell? ⟨qb, 0, none⟩ = some (.int .i64 N) := HK0.out.cell 0
    have q1 : W0.cell? ⟨qb, 1, none⟩ = some (.int .i64 F) := HK0.out.cell 1
    have q2 : W0.cell? ⟨qb, 2, none⟩ = some (.slice Af nf cf) := HK0.out.cell 2
    have q3 : W0.cell? ⟨qb, 3, none⟩ = some (.slice A nl c) := HK0.out.cell 3
    have q4 : W0.cell? ⟨qb, 4, none⟩ = some (.int .i64 fr) := HK0.out.cell 4
    have q5 : W0.cell? ⟨qb, 5, none⟩ = some (.int .i64 value) := HK0.out.cell 5
    go_wp2_with fail
    refine HHE.out.mono ?_
    rintro e w2 ⟨rfl, hb2⟩
    have HB2 := Lib.hid (HTR.out _ _ HB0.out hb2)
    have r1 : w2.cell? ⟨qb, 1, none⟩ = some (.int .i64 F) := (HK0.out.below hb2 HK0.out.lt).cell 1
    clear hb2 q0 q1 q2 q3 q4 q5
    go_wp2_with fail
    go_ret
    exact HFIN.out _ _ rfl HB2.out
  | succ n ih =>
    intro j rp w Ap cp i hn hf hl hp hcp
    have hll := hl.len
    have hff := hf.1
    obtain ⟨qb, hqb⟩ : ∃ qb, w.heap.size = qb := ⟨_, rfl⟩
    have HQB := Lib.hid hqb
    have hpl := path_lenI j rp
    obtain ⟨bb, off, rfl, hbb, _⟩ := Sl.at1 hp (i := rp.length) (by rw [hpl]; omega)
    obtain ⟨W0, hW0⟩ : ∃ W0, w.alloc (.cells (talkA N F Af fl.length cf A l.length c fr value) 108) = W0 := ⟨_, rfl⟩
    have hb0 : Below w.heap.size w W0 := by rw [← hW0]; exact (Below.refl _ w).alloc (Nat.le_refl _) _
    have HB0 : Hid (Below qb w W0) := Lib.hid (by rw [← hqb]; exact hb0)
    have HK0 : Hid (Bk W0 qb 108 (talkA N F Af fl.length cf A l.length c fr value)) := Lib.hid (by rw [← hW0, ← hqb]; exact Bk.new _ _ _)
    have HHE := Lib.hid (refHeard_any N F Af cf fl A c l fr value (some ⟨bb, off, none⟩) cp rp j W0 i (Sl.mono (Sl.below hf hb0) hb0.size) ((hl.below hb0).mono hb0.size) (Sl.mono (Sl.below hp hb0) hb0.size) hcp (by omega))
    have HTR : Hid (∀ a b, Below qb w a → Below a.heap.size a b → Below qb w b) := Lib.hid fun _ _ h1 h2 => h1.trans (h2.mono (by rw [← hqb]; exact h1.size))
    have HPA : Hid (∀ w1, Below qb w w1 → IntsAt w1 w1.heap.size (some ⟨bb, off, none⟩) (upI (j :: rp)).reverse) := Lib.hid fun w1 h1 => Sl.mono (Sl.below hp (by rw [hqb]; exact h1)) h1.size
    have HIH0 : Hid (∀ (k : Nat) (w1 : World), Below qb w w1 → ∀ A7 c7, IntsAt w1 w1.heap.size A7 (upI (k :: j :: rp)).reverse → (j :: rp).length + 1 ≤ c7 → Calls Try.prog 80 #[.agg (talkA N F Af fl.length cf A l.length c fr value), .slice A7 ((j :: rp).length + 1) c7, .int .i64 i] w1 fun e w' => e = .returned (.int .i64 (heldB (talkD N F fl fr l value) n (k :: j :: rp) i)) ∧ Below w1.heap.size w1 w') := Lib.hid fun k w1 h1 A7 c7 h2 h3 =>
      ih k (j :: rp) w1 A7 c7 i (by simp only [List.length_cons]; omega) (Sl.mono (Sl.below hf (by rw [hqb]; exact h1)) h1.size) ((hl.below (by rw [hqb]; exact h1)).mono h1.size) h2 h3
    clear ih
    obtain ⟨t, ht⟩ : ∃ t, talkD N F fl fr l value = t := ⟨_, rfl⟩
    have HTN : Hid (t.N = N) := Lib.hid (by rw [← ht]; rfl)
    rw [ht] at HHE HIH0 ⊢
    obtain ⟨R, hR⟩ : ∃ R, heldB t (n + 1) (j :: rp) i = R := ⟨_, rfl⟩
    have HRM : Hid (majB (heldKD t n (j :: rp) i N) = R) := Lib.hid (by
      rw [← hR]
      show majB (heardB t (j :: rp) i :: ((List.range N).filter _).map _) = majB (heardB t (j :: rp) i :: (restB t (j :: rp) i).map _)
      unfold restB
      rw [HTN.out])
    have HFIN : Hid (∀ (x : Int) (w' : World), x = R → Below qb w w' → Ending.returned (.int .i64 x) = .returned (.int .i64 R) ∧ Below qb w w') := Lib.hid fun x w' h1 h2 => by subst h1; exact ⟨rfl, h2⟩
    obtain ⟨S, hS⟩ : ∃ S, heardB t (j :: rp) i = S := ⟨_, rfl⟩
    have HS := Lib.hid hS
    rw [hS] at HHE
    obtain ⟨nf, hnf⟩ : ∃ nf, fl.length = nf := ⟨_, rfl⟩
    obtain ⟨nl, hnl⟩ : ∃ nl, l.length = nl := ⟨_, rfl⟩
    obtain ⟨np, hnp⟩ : ∃ np, rp.length + 1 = np := ⟨_, rfl⟩
    have hnF : ¬ (np : Int) = (F : Int) + 1 := by omega
    have hnb : ((np : Int) == (F : Int) + 1) = false := by simpa using hnF
    have hnp3 : np ≤ 3 := by omega
    have hnp0 : 0 < np := by omega
    have HPLN : Hid ((upI (j :: rp)).reverse.length = np) := Lib.hid (by rw [hpl, hnp])
    rw [hnf] at hff hW0 HK0 HHE HIH0 ⊢
    rw [hnl] at hll hW0 HK0 HHE HIH0 ⊢
    rw [hnp] at hcp HHE ⊢
    rw [show (j :: rp).length = np from hnp] at HIH0
    rw [hqb, hR]
    unfold talkA at hW0 HK0 HHE HIH0 ⊢
    obtain ⟨ps, hps⟩ : ∃ ps, j :: rp = ps := ⟨_, rfl⟩
    rw [hps] at HPA HIH0 HRM HS HPLN
    have HPS : Hid (0 < np) := Lib.hid hnp0
    clear hn hf hl hp hnf hnl hnp hb0 hR hpl hbb ht hS hps
    go_enter Try.func80, Try.ntmps80
    go_upto_region 1 with (fail)
    clear hqb hW0
    have q0 : W0.cell? ⟨qb, 0, none⟩ = some (.int .i64 N) := HK0.out.cell 0
    have q1 : W0.cell? ⟨qb, 1, none⟩ = some (.int .i64 F) := HK0.out.cell 1
    have q2 : W0.cell? ⟨qb, 2, none⟩ = some (.slice Af nf cf) := HK0.out.cell 2
    have q3 : W0.cell? ⟨qb, 3, none⟩ = some (.slice A nl c) := HK0.out.cell 3
    have q4 : W0.cell? ⟨qb, 4, none⟩ = some (.int .i64 fr) := HK0.out.cell 4
    have q5 : W0.cell? ⟨qb, 5, none⟩ = some (.int .i64 value) := HK0.out.cell 5
    go_wp2_with fail
    refine HHE.out.mono ?_
    rintro e W1 ⟨rfl, hb2⟩
    have HB1 := Lib.hid (HTR.out _ _ HB0.out hb2)
    have HK1 := Lib.hid (HK0.out.below hb2 HK0.out.lt)
    have r1 : W1.cell? ⟨qb, 1, none⟩ = some (.int .i64 F) := HK1.out.cell 1
    clear hb2 q0 q1 q2 q3 q4 q5 HHE
    obtain ⟨W6, hW6⟩ : ∃ W6, W1.alloc (.cells #[.int .i64 S] 3) = W6 := ⟨_, rfl⟩
    have hb6 : Below W1.heap.size W1 W6 := by rw [← hW6]; exact (Below.refl _ _).alloc (Nat.le_refl _) _
    have HB6 := Lib.hid hb6
    have HO6 : Hid (W6.ownsRow W1.heap.size 3 1 (.slice (some ⟨W1.heap.size, 0, none⟩) 1 1) (heldKD t n ps i 0).length (intsV (heldKD t n ps i 0))) := Lib.hid (by
      have e : heldKD t n ps i 0 = [S] := by rw [← HS.out]; rfl
      rw [e]
      exact row_one (by rw [← hW6]; exact Bk.new _ _ _) (Nat.le_refl _))
    obtain ⟨b5, hb5⟩ : ∃ b5, W1.heap.size = b5 := ⟨_, rfl⟩
    have HB5 := Lib.hid hb5
    rw [hb5] at HO6 HB6
    clear hb6
    obtain ⟨i0, hi, hz0, hz1, hz2⟩ := info_parts infoC_Int
    have HI0 := Lib.hid (And.intro hi (And.intro hz0 (And.intro hz1 hz2)))
    clear hi hz0 hz1 hz2
    go_wp2_with fail
    clear hW6 hb5 r1
    go_loopw [8, 9] (fun v jv wr => ∃ k : Nat, k ≤ N ∧ jv = .int .i64 k ∧ Hid (Below b5 W1 wr ∧ wr.ownsRow b5 3 1 v (heldKD t n ps i k).length (intsV (heldKD t n ps i k)))) (fun _ jv _ => N - (intOf jv).toNat)
    case atStart => exact ⟨0, Nat.zero_le _, rfl, Lib.hid ⟨HB6.out, HO6.out⟩⟩
    case round =>
      clear HO6 HB6
      obtain ⟨jx, hk, rfl, hs⟩ := hrel
      obtain ⟨W7, hW7⟩ : ∃ W7, W7 = wr := ⟨_, rfl⟩
      rw [← hW7] at hs ⊢
      clear hW7
      have hb17 : Below W1.heap.size W1 W7 := by rw [HB5.out]; exact hs.out.1
      have HBR := Lib.hid (HTR.out _ _ HB1.out hb17)
      have HKR := Lib.hid (HK1.out.below hb17 HK1.out.lt)
      have HWS : Hid (b5 ≤ W7.heap.size) := Lib.hid (by rw [← HB5.out]; exact hb17.size)
      clear hb17
      have q0 : W7.cell? ⟨qb, 0, none⟩ = some (.int .i64 N) := HKR.out.cell 0
      by_cases hlt : jx < N
      · have hki : (jx : Int) < (N : Int) := by omega
        have h0k : (0 : Int) ≤ (jx : Int) := by omega
        by_cases hji : jx = i
        · have HSN : Hid (heldKD t n ps i (jx + 1) = heldKD t n ps i jx) := Lib.hid (heldKD_no (by rw [decide_eq_false (fun h => h hji)]; rfl))
          have hjii : (jx : Int) = (i : Int) := by omega
          have HNX : Hid (Below b5 W1 W7 ∧ W7.ownsRow b5 3 1 u8 (heldKD t n ps i (jx + 1)).length (intsV (heldKD t n ps i (jx + 1)))) := Lib.hid (by rw [HSN.out]; exact hs.out)
          clear hji
          go_wp2_with fail
          go_roundw
          case rel => first | exact ⟨jx + 1, by omega, by go_num, HNX⟩ | ((repeat apply Exists.intro); exact ⟨⟨jx + 1, by omega, by go_num, HNX⟩, rfl⟩)
          case measure => simp [intOf]; omega
        have hjii : ¬ (jx : Int) = (i : Int) := by omega
        have hjb : ((jx : Int) != (i : Int)) = true := by simpa using hjii
        have HHS := Lib.hid (has_any W7 (some ⟨bb, off, none⟩) cp (upI ps).reverse jx (HPA.out W7 HBR.out))
        rw [HPLN.out, hasB_rev] at HHS
        obtain ⟨bc, hbc⟩ : ∃ bc, ps.contains jx = bc := ⟨_, rfl⟩
        rw [hbc] at HHS
        cases bc with
        | true =>
          have HSN : Hid (heldKD t n ps i (jx + 1) = heldKD t n ps i jx) := Lib.hid (heldKD_no (by rw [hbc, Bool.not_true, Bool.and_false]))
          have HNX : Hid (Below b5 W1 W7 ∧ W7.ownsRow b5 3 1 u8 (heldKD t n ps i (jx + 1)).length (intsV (heldKD t n ps i (jx + 1)))) := Lib.hid (by rw [HSN.out]; exact hs.out)
          clear hji hbc
          go_wp2_with fail
          refine HHS.out.mono ?_
          rintro e w8 ⟨rfl, rfl⟩
          go_wp2_with fail
          go_roundw
          case rel => first | exact ⟨jx + 1, by omega, by go_num, HNX⟩ | ((repeat apply Exists.intro); exact ⟨⟨jx + 1, by omega, by go_num, HNX⟩, rfl⟩)
          case measure => simp [intOf]; omega
        | false =>
          have HSN : Hid (heldKD t n ps i (jx + 1) = heldKD t n ps i jx ++ [heldB t n (jx :: ps) i]) := Lib.hid (heldKD_yes (by rw [hbc, decide_eq_true hji]; rfl))
          have hlen7 := heldKD_len t n ps i jx
          obtain ⟨hv, hhv⟩ : ∃ hv, heldB t n (jx :: ps) i = hv := ⟨_, rfl⟩
          obtain ⟨len, hlen⟩ : ∃ len, (heldKD t n ps i jx).length = len := ⟨_, rfl⟩
          obtain ⟨xs, hxs⟩ : ∃ xs, intsV (heldKD t n ps i jx) = xs := ⟨_, rfl⟩
          have HOWN : Hid (W7.ownsRow b5 3 1 u8 len xs) := Lib.hid (by rw [← hlen, ← hxs]; exact hs.out.2)
          have HLEN : Hid ((heldKD t n ps i (jx + 1)).length = len + 1) := Lib.hid (by rw [HSN.out, List.length_append, hlen]; rfl)
          have HXS : Hid (intsV (heldKD t n ps i (jx + 1)) = xs ++ [.int .i64 hv]) := Lib.hid (by rw [HSN.out, ← hxs, ← hhv]; unfold intsV; rw [List.map_append]; rfl)
          rw [hlen] at hlen7
          have HIH : Hid (∀ w1, Below W7.heap.size W7 w1 → ∀ A7 c7, IntsAt w1 w1.heap.size A7 (upI (jx :: ps)).reverse → np + 1 ≤ c7 → Calls Try.prog 80 #[.agg #[.int .i64 N, .int .i64 F, .slice Af nf cf, .slice A nl c, .int .i64 fr, .int .i64 value], .slice A7 (np + 1) c7, .int .i64 i] w1 fun e w' => e = .returned (.int .i64 hv) ∧ Below w1.heap.size w1 w') := Lib.hid fun w1 h1 A7 c7 h2 h3 => by
            rw [← hhv]
            exact HIH0.out jx w1 (HTR.out _ _ HBR.out h1) A7 c7 h2 h3
          have HTC : Hid (∀ w1, Below W7.heap.size W7 w1 → ∀ m u, (#[.int .i64 N, .int .i64 F, .slice Af nf cf, .slice A nl c, .int .i64 fr, .int .i64 value] : Array Value)[m]? = some u → w1.cell? ⟨qb, 0 + m, none⟩ = some u) := Lib.hid fun w1 h1 m u hm => by
            rw [Nat.zero_add, (HKR.out.below h1 HKR.out.lt).cell]; exact hm
          obtain ⟨PS, hPS⟩ : ∃ PS, intsV (upI ps).reverse = PS := ⟨_, rfl⟩
          have HPL : Hid (PS.length = np * 1) := Lib.hid (by rw [← hPS, Nat.mul_one, ← HPLN.out]; unfold intsV; simp)
          have HPC : Hid (∀ w1, Below W7.heap.size W7 w1 → ∀ m u, PS[m]? = some u → w1.cell? ((⟨bb, off, none⟩ : Addr).add m) = some u) := Lib.hid fun w1 h1 m u hm => by
            have h2 := HPA.out w1 (HTR.out _ _ HBR.out h1)
            obtain ⟨b', off', e, _, hc⟩ := h2.2 (by rw [HPLN.out]; exact HPS.out)
            injection e with e
            injection e with e1 e2 _
            subst e1 e2
            rw [← hPS, intsV_rows] at hm
            rw [Addr.add_lit]
            exact rowsL_cell hc m u hm
          have HPO : Hid (∀ u ∈ PS, u.oneCell' = true) := Lib.hid fun u hu => by
            rw [← hPS] at hu
            obtain ⟨y, _, rfl⟩ := List.mem_map.1 hu
            rfl
          have HOI : Hid (∀ (w1 : World) (v : Value), w1.ownsRow W7.heap.size 3 1 v (np + 1) (PS ++ [.int .i64 jx]) → ∃ A7 c7, v = .slice A7 (np + 1) c7 ∧ IntsAt w1 w1.heap.size A7 (upI (jx :: ps)).reverse ∧ np + 1 ≤ c7) := Lib.hid fun w1 v h1 => by
            rw [← hPS, ← intsV_path] at h1
            exact own_ints (by have := HPLN.out; unfold upI at this ⊢; simp at this ⊢; exact this) h1 (by omega) (by omega)
          clear hji hbc hhv hlen hxs hPS q0 HIH0 HSN
          have q0 : W7.cell? ⟨qb, 0, none⟩ = some (.int .i64 N) := HKR.out.cell 0
          go_wp2_with fail
          refine HHS.out.mono ?_
          rintro e w8 ⟨rfl, hw8⟩
          rw [hw8]
          clear hw8
          go_upto_region 9 with (fail)
          clear q0
          obtain ⟨fT, undT⟩ := undTalk
          by_cases hgo : True
          case pos =>
            refine wp_region_stepsJ (by kernel_rfl) (by kernel_rfl) (fun dn vs w1 => HeldJ W7 b5 u8 len xs np PS (.int .i64 jx) (.int .i64 hv) (dn 2) (dn 4) (dn 6) (dn 7) (dn 9) (dn 10) (dn 11) (dn 12) (vs 2) (vs 4) (vs 6) (vs 7) (vs 10) (vs 11) (vs 12) w1) (fun _ _ _ => True)
              (fun ix u _ _ => match ix with
                | 0 => u = u8
                | 1 => u = .agg #[.int .i64 N, .int .i64 F, .slice Af nf cf, .slice A nl c, .int .i64 fr, .int .i64 value]
                | 2 => True
                | 3 => u = .slice (some ⟨bb, off, none⟩) np cp
                | 4 => True
                | 5 => u = .int .i64 jx
                | 6 => True
                | 7 => True
                | 8 => u = .int .i64 i
                | 9 => u = .int .i64 hv
                | 10 => True
                | 11 => True
                | _ => True) (fun _ => HeldJ.start _ _ _ _ _ _ _ _ _ _ _ _ _ _ _ _) (fun _ _ _ _ _ _ _ _ h _ => h) ?_ ?_
            · refine ⟨?_, ?_, ?_, ?_, ?_, ?_, ?_, ?_, ?_, ?_, ?_, ?_, ?_, trivial⟩
              · intro a w1 vs K dn Hd Hb HJ HK HD HN kk
                have e8 := HK 8 (by decide)
                go_simp; exact kk _ _ (by simp) HJ trivial rfl
              · intro a w1 vs K dn Hd Hb HJ HK HD HN kk
                have e3 := HK 3 (by decide)
                have d11 : dn 11 = false := by cases hq : dn 11 with | false => rfl | true => exact absurd (Hd 11 hq).2 (by decide)
                
                exact wpo_loadS 108 (.tmp 3) rfl qb 0 (by simpa [Act.eval] using e3) #[.int .i64 N, .int .i64 F, .slice Af nf cf, .slice A nl c, .int .i64 fr, .int .i64 value] _ (HTC.out w1 (HJ.bel d11)) undT rfl infoTalk (kk _ _ (by simp) HJ trivial rfl)
              · intro a w1 vs K dn Hd Hb HJ HK HD HN kk
                have d11 : dn 11 = false := by cases hq : dn 11 with | false => rfl | true => exact absurd (Hd 11 hq).2 (by decide)
                go_simp; exact kk _ _ (by simp) (HJ.mk2 d11) trivial trivial
              · intro a w1 vs K dn Hd Hb HJ HK HD HN kk
                have e1 := HK 1 (by decide)
                go_simp; exact kk _ _ (by simp) HJ trivial rfl
              · intro a w1 vs K dn Hd Hb HJ HK HD HN kk
                have e43 := (HD 3 _ 43 rfl rfl rfl).1.trans (HD 3 _ 43 rfl rfl rfl).2
                have d11 : dn 11 = false := by cases hq : dn 11 with | false => rfl | true => exact absurd (Hd 11 hq).2 (by decide)
                have d10 : dn 10 = false := by cases hq : dn 10 with | false => rfl | true => exact absurd (Hd 10 hq).2 (by decide)
                have d7 : dn 7 = false := by cases hq : dn 7 with | false => rfl | true => exact absurd (Hd 7 hq).2 (by decide)
                have d4 : dn 4 = false := by cases hq : dn 4 with | false => rfl | true => exact absurd rfl (Hd 4 hq).1
                have d2 : dn 2 = true := Hb 2 (by decide)
                obtain ⟨ho, g, y1⟩ := HJ.r2 d2 d4
                have e42 := (HD 2 _ 42 rfl rfl rfl).1
                exact wp_append_own w1 (.tmp 42) (.tmp 43) 36 rfl W7.heap.size 3 i0 (.int .i64 0) 1 8 Try.underlying36 HI0.out.1 HI0.out.2.1 HI0.out.2.2.1 HI0.out.2.2.2 rfl (by decide) (vs 2) 0 [] (by simpa [Act.eval] using e42) ho ⟨bb, off, none⟩ np cp PS (by simpa [Act.eval] using e43) HPL.out (HPC.out w1 (HJ.bel d11)) HPO.out (by unfold maxLen; omega) (by omega) (HJ.bel d11).size fun v' w' hown hg _ =>
                  kk _ _ (by simp) (HJ.mk4 d2 d4 d7 d10 d11 (show w'.ownsRow W7.heap.size 3 1 v' np PS from by simpa using hown) hg) trivial trivial
              · intro a w1 vs K dn Hd Hb HJ HK HD HN kk
                have e9 := HK 9 (by decide)
                go_simp; exact kk _ _ (by simp) HJ trivial rfl
              · intro a w1 vs K dn Hd Hb HJ HK HD HN kk
                have e45 := (HD 5 _ 45 rfl rfl rfl).1.trans (HD 5 _ 45 rfl rfl rfl).2
                have d11 : dn 11 = false := by cases hq : dn 11 with | false => rfl | true => exact absurd (Hd 11 hq).2 (by decide)
                go_simp; exact kk _ _ (by simp) (HJ.mk6 d11) trivial trivial
              · intro a w1 vs K dn Hd Hb HJ HK HD HN kk
                have d11 : dn 11 = false := by cases hq : dn 11 with | false => rfl | true => exact absurd (Hd 11 hq).2 (by decide)
                have d10 : dn 10 = false := by cases hq : dn 10 with | false => rfl | true => exact absurd (Hd 10 hq).2 (by decide)
                have d7 : dn 7 = false := by cases hq : dn 7 with | false => rfl | true => exact absurd rfl (Hd 7 hq).1
                have d4 : dn 4 = true := Hb 4 (by decide)
                have d6 : dn 6 = true := Hb 6 (by decide)
                obtain ⟨g, y1, y2⟩ := HJ.r6 d6 d7
                have e44 := (HD 4 _ 44 rfl rfl rfl).1
                have e46 := (HD 6 _ 46 rfl rfl rfl).1.trans y1
                exact wp_append_own w1 (.tmp 44) (.tmp 46) 36 rfl W7.heap.size 3 i0 (.int .i64 0) 1 8 Try.underlying36 HI0.out.1 HI0.out.2.1 HI0.out.2.2.1 HI0.out.2.2.2 rfl (by decide) (vs 4) np PS (by simpa [Act.eval] using e44) (HJ.r4 d4 d7) ⟨g, 0, none⟩ 1 1 [.int .i64 jx] (by simpa [Act.eval] using e46) rfl (fun m u hm => by rw [Addr.add_lit, Nat.zero_add, y2.cell]; simpa using hm) (fun u hu => by simp at hu; subst hu; rfl) (by unfold maxLen; omega) (by omega) (HJ.bel d11).size fun v' w' hown hg _ =>
                  kk _ _ (by simp) (HJ.mk7 d4 d10 d11 d7 hown hg) trivial trivial
              · intro a w1 vs K dn Hd Hb HJ HK HD HN kk
                have e2 := HK 2 (by decide)
                go_simp; exact kk _ _ (by simp) HJ trivial rfl
              · intro a w1 vs K dn Hd Hb HJ HK HD HN kk
                have e41 := (HD 1 _ 41 rfl rfl rfl).1.trans (HD 1 _ 41 rfl rfl rfl).2
                have e48 := (HD 8 _ 48 rfl rfl rfl).1.trans (HD 8 _ 48 rfl rfl rfl).2
                have d11 : dn 11 = false := by cases hq : dn 11 with | false => rfl | true => exact absurd (Hd 11 hq).2 (by decide)
                have d10 : dn 10 = false := by cases hq : dn 10 with | false => rfl | true => exact absurd (Hd 10 hq).2 (by decide)
                have d7 : dn 7 = true := Hb 7 (by decide)
                obtain ⟨A7, c7, y1, hi7, hc7⟩ := HOI.out w1 _ (HJ.r7 d7 d11)
                have e47 := (HD 7 _ 47 rfl rfl rfl).1.trans y1
                exact wpo_call 80 _ _ rfl #[.agg #[.int .i64 N, .int .i64 F, .slice Af nf cf, .slice A nl c, .int .i64 fr, .int .i64 value], .slice A7 (np + 1) c7, .int .i64 i] (by simp [Act.eval, e41, e47, e48]) (fun args w => by kernel_rfl)
                  ((HIH.out w1 (HJ.bel d11) A7 c7 hi7 hc7).mono fun e w' ⟨he, hb⟩ => ⟨_, he, kk _ _ (by simp) ((HJ.below d11 hb).mk9 d7) trivial rfl⟩)
              · intro a w1 vs K dn Hd Hb HJ HK HD HN kk
                have e49 := (HD 9 _ 49 rfl rfl rfl).1.trans (HD 9 _ 49 rfl rfl rfl).2
                have d11 : dn 11 = false := by cases hq : dn 11 with | false => rfl | true => exact absurd (Hd 11 hq).2 (by decide)
                have d9 : dn 9 = true := Hb 9 (by decide)
                go_simp; exact kk _ _ (by simp) (HJ.mk10 d9 d11) trivial trivial
              · intro a w1 vs K dn Hd Hb HJ HK HD HN kk
                have e40 := (HD 0 _ 40 rfl rfl rfl).1.trans (HD 0 _ 40 rfl rfl rfl).2
                have d11 : dn 11 = false := by cases hq : dn 11 with | false => rfl | true => exact absurd rfl (Hd 11 hq).1
                have d12 : dn 12 = false := by cases hq : dn 12 with | false => rfl | true => exact absurd (Hd 12 hq).2 (by decide)
                have d10 : dn 10 = true := Hb 10 (by decide)
                have d7 : dn 7 = true := HJ.ch.2.1 (HJ.ch.2.2 d10)
                have d4 : dn 4 = true := HJ.ch.1 d7
                obtain ⟨g, y1, y2⟩ := HJ.r10 d10 d11
                have e50 := (HD 10 _ 50 rfl rfl rfl).1.trans y1
                exact wp_append_own w1 (.tmp 40) (.tmp 50) 36 rfl b5 3 i0 (.int .i64 0) 1 8 Try.underlying36 HI0.out.1 HI0.out.2.1 HI0.out.2.2.1 HI0.out.2.2.2 rfl (by decide) u8 len xs (by simpa [Act.eval] using e40) (World.ownsRow.of_below HOWN.out (HJ.bel d11)) ⟨g, 0, none⟩ 1 1 [.int .i64 hv] (by simpa [Act.eval] using e50) rfl (fun m u hm => by rw [Addr.add_lit, Nat.zero_add, y2.cell]; simpa using hm) (fun u hu => by simp at hu; subst hu; rfl) (by unfold maxLen; omega) (by omega) (by have := (HJ.bel d11).size; have := HWS.out; omega) fun v' w' hown hg _ =>
                  kk _ _ (by simp) (HJ.mk11 d4 d7 d11 d12 hown hg) trivial trivial
              · intro a w1 vs K dn Hd Hb HJ HK HD HN kk
                have d11 : dn 11 = true := Hb 11 (by decide)
                have e51 := (HD 11 _ 51 rfl rfl rfl).1
                go_simp; exact kk _ _ (by simp) (HJ.mk12) trivial trivial
            · intro vs dn w9 hdn hj _
              obtain ⟨w0, hb0, hown, hg⟩ := hj.r11 (hdn 11 (by decide))
              have e12 := hj.r12 (hdn 12 (by decide))
              obtain ⟨v', hv'⟩ : ∃ v', vs 11 = v' := ⟨_, rfl⟩
              rw [hv'] at hown e12
              have HB9 : Hid (Below b5 W1 w9) := Lib.hid ((hs.out.1.trans (hb0.mono HWS.out)).grown hg (Nat.le_trans HWS.out hb0.size) fun g hg' => ((World.ownsRow.of_below HOWN.out hb0).lt g hg').1)
              have HO9 : Hid (w9.ownsRow b5 3 1 v' (len + 1) (xs ++ [.int .i64 hv])) := Lib.hid hown
              clear hg hown hdn hj hb0 hv'
              simp only [putAll, Act.put, List.setIfInBounds_toArray, List.set_cons_zero, List.set_cons_succ]
              rw [e12]
              clear e12
              go_wp2_with fail
              go_roundw
              case rel => first | exact ⟨jx + 1, by omega, by go_num, Lib.hid (by rw [HLEN.out, HXS.out]; exact ⟨HB9.out, HO9.out⟩)⟩ | ((repeat apply Exists.intro); exact ⟨⟨jx + 1, by omega, by go_num, Lib.hid (by rw [HLEN.out, HXS.out]; exact ⟨HB9.out, HO9.out⟩)⟩, rfl⟩)
              case measure => simp [intOf]; omega
          case neg => exact absurd trivial hgo
      · obtain rfl : jx = N := by omega
        have hlen7 := heldKD_len t n ps i jx
        obtain ⟨A9, c9, hA9, hi9, _⟩ := own_ints rfl hs.out.2 (by omega) (by unfold heldKD; simp)
        have hMJ := refMaj_any W7 A9 c9 (heldKD t n ps i jx) hi9 (by omega)
        rw [HRM.out] at hMJ
        have HMJ := Lib.hid hMJ
        obtain ⟨len, hlen⟩ : ∃ len, (heldKD t n ps i jx).length = len := ⟨_, rfl⟩
        rw [hlen] at HMJ hA9
        clear hi9 hMJ hlen hlen7
        subst hA9
        go_wp2_with fail
        refine HMJ.out.mono ?_
        rintro e w9 ⟨rfl, hb9⟩
        have HB9 := Lib.hid (HTR.out _ _ HBR.out hb9)
        clear hb9
        go_wp2_with fail
        go_ret
        exact HFIN.out _ _ rfl HB9.out
end Go.Proofs.Ytnmccbjdfdbgpaa
/- What is proved: contracts of the document's decide and Agree. Conditions: the council and the lies lie in memory. -/
namespace Go.Proofs.Ytnmccbjdfdbgpaa
open Go.RowKit

set_option maxRecDepth 100000 in
set_option maxHeartbeats 8000000 in
theorem refDecide_any (N F : Nat) (Af : Option Addr) (cf : Nat) (fl : List Int) (A : Option Addr) (c : Nat) (l : List LieD) (fr value : Int) (hN : N ≤ 7) (hF : F ≤ 2) (w : World) (g i : Nat)
    (hf : IntsAt w w.heap.size Af fl) (hl : LiesAt w w.heap.size A l) :
    Calls Try.prog 61 #[.agg (talkA N F Af fl.length cf A l.length c fr value), .int .i64 g, .int .i64 i] w fun e w' => e = .returned (.int .i64 (decideB (talkD N F fl fr l value) g i)) ∧ Below w.heap.size w w' := by
  have hll := hl.len
  have hff := hf.1
  obtain ⟨qb, hqb⟩ : ∃ qb, w.heap.size = qb := ⟨_, rfl⟩
  obtain ⟨W0, hW0⟩ : ∃ W0, w.alloc (.cells (talkA N F Af fl.length cf A l.length c fr value) 108) = W0 := ⟨_, rfl⟩
  have hb0 : Below w.heap.size w W0 := by rw [← hW0]; exact (Below.refl _ w).alloc (Nat.le_refl _) _
  have HB0 : Hid (Below qb w W0) := Lib.hid (by rw [← hqb]; exact hb0)
  have HK0 : Hid (Bk W0 qb 108 (talkA N F Af fl.length cf A l.length c fr value)) := Lib.hid (by rw [← hW0, ← hqb]; exact Bk.new _ _ _)
  have HHAS := Lib.hid (has_any W0 Af cf fl i (Sl.mono (Sl.below hf hb0) hb0.size))
  obtain ⟨W1, hW1⟩ : ∃ W1, W0.alloc (.cells #[.int .i64 g] 3) = W1 := ⟨_, rfl⟩
  have hb1 : Below w.heap.size w W1 := by rw [← hW1]; exact hb0.alloc hb0.size _
  have hpi : IntsAt W1 W1.heap.size (some ⟨W0.heap.size, 0, none⟩) (upI [g]).reverse := by
    have hk : Bk W1 W0.heap.size 3 #[.int .i64 g] := by rw [← hW1]; exact Bk.new _ _ _
    exact ints_bk (l := [(g : Int)]) hk rfl (by simp)
  have HHE := Lib.hid (refHeld_any N F Af cf fl A c l fr value hN hF F g [] W1 (some ⟨W0.heap.size, 0, none⟩) 1 i (by simp) (Sl.mono (Sl.below hf hb1) hb1.size) ((hl.below hb1).mono hb1.size) hpi (by simp))
  have HB1 : Hid (Below qb w W1) := Lib.hid (by rw [← hqb]; exact hb1)
  have HTR : Hid (∀ a b, Below qb w a → Below a.heap.size a b → Below qb w b) := Lib.hid fun _ _ h1 h2 => h1.trans (h2.mono (by rw [← hqb]; exact h1.size))
  obtain ⟨t, ht⟩ : ∃ t, talkD N F fl fr l value = t := ⟨_, rfl⟩
  have HDE : Hid (decideB t g i = if hasB fl i = true then 0 else if i = g then value else heldB t F [g] i) := Lib.hid (by rw [← ht]; rfl)
  rw [ht] at HHE ⊢
  obtain ⟨R, hR⟩ : ∃ R, decideB t g i = R := ⟨_, rfl⟩
  obtain ⟨hv, hhv⟩ : ∃ hv, heldB t F [g] i = hv := ⟨_, rfl⟩
  obtain ⟨bi, hbi⟩ : ∃ bi, hasB fl i = bi := ⟨_, rfl⟩
  rw [hR, hhv, hbi] at HDE
  rw [hhv] at HHE
  rw [hbi] at HHAS
  have HFIN : Hid (∀ (x : Int) (w' : World), x = R → Below qb w w' → Ending.returned (.int .i64 x) = .returned (.int .i64 R) ∧ Below qb w w') := Lib.hid fun x w' h1 h2 => by subst h1; exact ⟨rfl, h2⟩
  obtain ⟨nf, hnf⟩ : ∃ nf, fl.length = nf := ⟨_, rfl⟩
  obtain ⟨nl, hnl⟩ : ∃ nl, l.length = nl := ⟨_, rfl⟩
  rw [hnf] at hff hW0 HK0 HHE HHAS ⊢
  rw [hnl] at hll hW0 HK0 HHE ⊢
  rw [hqb, hR]
  change Hid (Calls Try.prog _ #[_, .slice _ 1 1, _] _ _) at HHE
  unfold talkA at hW0 HK0 HHE ⊢
  obtain ⟨b1, hb1e⟩ : ∃ b1, W0.heap.size = b1 := ⟨_, rfl⟩
  rw [hb1e] at HHE
  clear hf hl hnf hnl hb0 hb1 hR hhv hbi ht hpi
  go_enter Try.func61, Try.ntmps61
  go_upto_region 1 with (fail)
  clear hqb hW0
  have q0 : W0.cell? ⟨qb, 0, none⟩ = some (.int .i64 N) := HK0.out.cell 0
  have q1 : W0.cell? ⟨qb, 1, none⟩ = some (.int .i64 F) := HK0.out.cell 1
  have q2 : W0.cell? ⟨qb, 2, none⟩ = some (.slice Af nf cf) := HK0.out.cell 2
  have q3 : W0.cell? ⟨qb, 3, none⟩ = some (.slice A nl c) := HK0.out.cell 3
  have q4 : W0.cell? ⟨qb, 4, none⟩ = some (.int .i64 fr) := HK0.out.cell 4
  have q5 : W0.cell? ⟨qb, 5, none⟩ = some (.int .i64 value) := HK0.out.cell 5
  go_wp2_with fail
  refine HHAS.out.mono ?_
  rintro e w2 ⟨rfl, hw2⟩
  rw [hw2]
  clear hw2
  cases bi with
  | true =>
    have HR : Hid (0 = R) := Lib.hid (by rw [HDE.out]; rfl)
    go_wp2_with fail
    go_ret
    exact HFIN.out _ _ HR.out HB0.out
  | false =>
  by_cases hig : i = g
  · have hii : (i : Int) = (g : Int) := by omega
    have HR : Hid (value = R) := Lib.hid (by rw [HDE.out, if_neg (by decide), if_pos hig])
    clear hig
    go_wp2_with fail
    go_ret
    exact HFIN.out _ _ HR.out HB0.out
  have hii : ¬ (i : Int) = (g : Int) := by omega
  have HR : Hid (hv = R) := Lib.hid (by rw [HDE.out, if_neg (by decide), if_neg hig])
  clear hig
  go_wp2_with fail
  refine HHE.out.mono ?_
  rintro e w3 ⟨rfl, hb3⟩
  have HB3 := Lib.hid (HTR.out _ _ HB1.out hb3)
  clear hb3 hW1 hb1e
  go_wp2_with fail
  go_ret
  exact HFIN.out _ _ HR.out HB3.out
theorem Cl.wk {w : World} {B B' k n : Nat} {T : TypeId} {A : Option Addr} {f : Nat → Nat → Value} (h : Cl w B' T k A n f) (hB : B ≤ B') : Cl w B T k A n f :=
  ⟨h.1, fun hn => by obtain ⟨g, cur, e, h1, h2, h3⟩ := h.2 hn; exact ⟨g, cur, e, Nat.le_trans hB h1, h2, h3⟩⟩
theorem agreeB_ok {N F : Nat} {fl : List Int} {g : Nat} {v : Int} {l : List LieD} (h1 : councilB N F fl = true) (h2 : inB (g : Int) 0 ((N : Int) - 1) = true) (h3 : ¬ 1000 < l.length) (hg : g < N) :
    agreeB N F fl g v l = ((List.range N).map fun i => decideB (talkD N F fl 0 l v) g i, 0) := by
  unfold agreeB
  rw [h1, h2, if_neg (by decide), if_neg h3, Int.toNat_natCast, Int.toNat_natCast]
  refine congrArg (fun x => (x, (0 : Int))) (List.map_congr_left fun i _ => dec_link hg)
theorem range_map_succ (f : Nat → Int) (k : Nat) : intsV ((List.range (k + 1)).map f) = intsV ((List.range k).map f) ++ [.int .i64 (f k)] := by
  unfold intsV; rw [List.range_succ, List.map_append, List.map_append]; rfl
set_option maxRecDepth 100000 in
set_option maxHeartbeats 8000000 in
theorem refAgree_any (w : World) (N F : Int) (Af : Option Addr) (cf : Nat) (fl : List Int) (g value : Int) (A : Option Addr) (c : Nat) (l : List LieD) (hf : IntsAt w w.heap.size Af fl) (hl : LiesAt w w.heap.size A l) :
    Calls Try.prog 26 #[.agg #[.int .i64 N, .int .i64 F, .slice Af fl.length cf], .int .i64 g, .int .i64 value, .slice A l.length c] w (ListPost w (agreeB N F fl g value l)) := by
  have hll := hl.len
  have hff := hf.1
  obtain ⟨qb, hqb⟩ : ∃ qb, w.heap.size = qb := ⟨_, rfl⟩
  have HQB := Lib.hid hqb
  have HTR : Hid (∀ a b, Below qb w a → Below a.heap.size a b → Below qb w b) := Lib.hid fun _ _ h1 h2 => h1.trans (h2.mono (by rw [← hqb]; exact h1.size))
  obtain ⟨W0, hW0⟩ : ∃ W0, w.alloc (.cells #[.int .i64 N, .int .i64 F, .slice Af fl.length cf] 48) = W0 := ⟨_, rfl⟩
  have hb0 : Below w.heap.size w W0 := by rw [← hW0]; exact (Below.refl _ w).alloc (Nat.le_refl _) _
  have HB0 : Hid (Below qb w W0) := Lib.hid (by rw [← hqb]; exact hb0)
  have HK0 : Hid (Bk W0 qb 48 #[.int .i64 N, .int .i64 F, .slice Af fl.length cf]) := Lib.hid (by rw [← hW0, ← hqb]; exact Bk.new _ _ _)
  have HCO := Lib.hid (refCouncil_any W0 N F Af cf fl (Sl.mono (Sl.below hf hb0) hb0.size))
  have HIG := Lib.hid fun (w1 : World) => in_any g 0 (N - 1) w1
  have HDE0 := Lib.hid fun (Nn Fn : Nat) (hN : Nn ≤ 7) (hF : Fn ≤ 2) (gn i : Nat) (w1 : World) (hb : Below qb w w1) => refDecide_any Nn Fn Af cf fl A c l 0 value hN hF w1 gn i (Sl.mono (Sl.below hf (by rw [hqb]; exact hb)) hb.size) ((hl.below (by rw [hqb]; exact hb)).mono hb.size)
  have HERR : Hid (∀ (er : Int) (w' : World), agreeB N F fl g value l = ([], er) → Below qb w w' → ListPost w (agreeB N F fl g value l) (.returned (.tuple #[.slice none 0 0, .int .i64 er])) w') := Lib.hid fun er w' h1 h2 => by
    rw [h1]; exact ⟨none, 0, rfl, Cl.nil _ _ _ _ _ _, by rw [hqb]; exact h2⟩
  have HGD : Hid (∀ (out : List Int) (v : Value) (w' : World) (B' : Nat), qb ≤ B' → agreeB N F fl g value l = (out, 0) → out.length ≤ 7 → w'.ownsRow B' 3 1 v out.length (intsV out) → Below qb w w' → ListPost w (agreeB N F fl g value l) (.returned (.tuple #[v, .int .i64 0])) w') := Lib.hid fun out v w' B' h0 h1 h2 h3 h4 => by
    rw [intsV_rows] at h3
    obtain ⟨A', c', rfl, h5⟩ := Cl.of_own (by omega) h3
    rw [h1]; exact ⟨A', c', rfl, by rw [hqb]; exact h5.wk h0, by rw [hqb]; exact h4⟩
  have HAD : Hid (agreeB N F fl g value l = if (councilB N F fl && inB g 0 (N - 1)) = false then ([], 2) else if 1000 < l.length then ([], 3) else ((List.range N.toNat).map (decP (learnB N F 0 l) fl N.toNat F.toNat value g), 0)) := Lib.hid rfl
  obtain ⟨JP, hJP⟩ : ∃ Q, ListPost w (agreeB N F fl g value l) = Q := ⟨_, rfl⟩
  rw [hJP] at HERR HGD ⊢
  obtain ⟨nf, hnf⟩ : ∃ nf, fl.length = nf := ⟨_, rfl⟩
  obtain ⟨nl, hnl⟩ : ∃ nl, l.length = nl := ⟨_, rfl⟩
  have HNL := Lib.hid hnl
  rw [hnf] at hff hW0 HK0 HCO HDE0 ⊢
  rw [hnl] at hll HDE0 HAD ⊢
  obtain ⟨b1, hb1⟩ : ∃ b1, councilB N F fl = b1 := ⟨_, rfl⟩
  have HB1E := Lib.hid hb1
  rw [hb1] at HCO HAD
  clear hf hl hnf hnl hb0 hJP hb1
  go_enter Try.func26, Try.ntmps26
  go_upto_region 1 with (fail)
  clear hqb hW0
  have q0 : W0.cell? ⟨qb, 0, none⟩ = some (.int .i64 N) := HK0.out.cell 0
  have q1 : W0.cell? ⟨qb, 1, none⟩ = some (.int .i64 F) := HK0.out.cell 1
  have q2 : W0.cell? ⟨qb, 2, none⟩ = some (.slice Af nf cf) := HK0.out.cell 2
  go_wp2_with fail
  refine HCO.out.mono ?_
  rintro e w1 ⟨rfl, hb1⟩
  have HB1 := Lib.hid (HTR.out _ _ HB0.out hb1)
  have HK1 := Lib.hid (HK0.out.below hb1 HK0.out.lt)
  clear hb1 q0 q1 q2 HCO
  have q0 : w1.cell? ⟨qb, 0, none⟩ = some (.int .i64 N) := HK1.out.cell 0
  cases b1 with
  | false =>
    go_wp2_with fail
    exact HERR.out 2 _ (by rw [HAD.out]; rfl) HB1.out
  | true =>
  obtain ⟨c1, c2, c3, c4, c5, c6, _⟩ := council_ok HB1E.out
  obtain ⟨b2, hb2⟩ : ∃ b2, inB g 0 (N - 1) = b2 := ⟨_, rfl⟩
  have HB2E := Lib.hid hb2
  rw [hb2] at HIG HAD
  clear hb2
  cases b2 with
  | false =>
    go_wp2_with fail
    refine (HIG.out _).mono ?_
    rintro e w2 ⟨rfl, rfl⟩
    go_wp2_with fail
    exact HERR.out 2 _ (by rw [HAD.out]; rfl) HB1.out
  | true =>
  obtain ⟨g1, g2⟩ := inB_iff.1 HB2E.out
  obtain ⟨Nn, rfl⟩ : ∃ Nn : Nat, N = Nn := ⟨N.toNat, by omega⟩
  obtain ⟨Fn, rfl⟩ : ∃ Fn : Nat, F = Fn := ⟨F.toNat, by omega⟩
  obtain ⟨gn, rfl⟩ : ∃ gn : Nat, g = gn := ⟨g.toNat, by omega⟩
  by_cases h10 : 1000 < nl
  · have h10i : (1000 : Int) < (nl : Int) := by omega
    go_wp2_with fail
    refine (HIG.out _).mono ?_
    rintro e w2 ⟨rfl, rfl⟩
    go_wp2_with fail
    exact HERR.out 3 _ (by rw [HAD.out, if_neg (by decide), if_pos h10]) HB1.out
  have h10i : ¬ (1000 : Int) < (nl : Int) := by omega
  have HOK := Lib.hid (agreeB_ok (v := value) HB1E.out HB2E.out (by rw [HNL.out]; exact h10) (by omega : gn < Nn))
  have HDE := Lib.hid fun (i : Nat) (w1 : World) (hb : Below qb w w1) => HDE0.out Nn Fn (by omega) (by omega) gn i w1 hb
  obtain ⟨D, hD⟩ : ∃ D : Nat → Int, (fun i => decideB (talkD Nn Fn fl 0 l value) gn i) = D := ⟨_, rfl⟩
  have HDD : Hid (∀ i, decideB (talkD Nn Fn fl 0 l value) gn i = D i) := Lib.hid fun i => by rw [← hD]
  rw [hD] at HOK
  have hN7 : Nn ≤ 7 := by omega
  have HDE2 : Hid (∀ (i : Nat) (w1 : World), Below qb w w1 → Calls Try.prog 61 #[.agg #[.int .i64 Nn, .int .i64 Fn, .slice Af nf cf, .slice A nl c, .int .i64 0, .int .i64 value], .int .i64 gn, .int .i64 i] w1 fun e w' => e = .returned (.int .i64 (D i)) ∧ Below w1.heap.size w1 w') := Lib.hid fun i w1 hb => by
    have := HDE.out i w1 hb
    rw [HDD.out] at this
    exact this
  obtain ⟨i0, hi, hz0, hz1, hz2⟩ := info_parts infoC_Int
  clear hD HDE HDE0 HAD
  go_wp2_with fail
  refine (HIG.out _).mono ?_
  rintro e w2 ⟨rfl, rfl⟩
  go_wp2_with fail
  clear q0
  go_loopw [10, 11] (fun v i wr => ∃ k : Nat, k ≤ Nn ∧ i = .int .i64 k ∧ Hid (Below w1.heap.size w1 wr ∧ wr.ownsRow w1.heap.size 3 1 v k (intsV ((List.range k).map D)))) (fun _ i _ => Nn - (intOf i).toNat)
  case atStart => exact ⟨0, Nat.zero_le _, rfl, Lib.hid ⟨Below.refl _ _, World.ownsRow_nil _ _ _ _⟩⟩
  case round =>
    obtain ⟨k, hk, rfl, hs⟩ := hrel
    have HBR := Lib.hid (HTR.out _ _ HB1.out hs.out.1)
    have HKR := Lib.hid (HK1.out.below hs.out.1 HK1.out.lt)
    have q0 : wr.cell? ⟨qb, 0, none⟩ = some (.int .i64 Nn) := HKR.out.cell 0
    by_cases hlt : k < Nn
    · have hki : (k : Int) < (Nn : Int) := by omega
      have q1 : wr.cell? ⟨qb, 1, none⟩ = some (.int .i64 Fn) := HKR.out.cell 1
      have q2 : wr.cell? ⟨qb, 2, none⟩ = some (.slice Af nf cf) := HKR.out.cell 2
      have HD2 := Lib.hid (HDE2.out k wr HBR.out)
      have HRS := Lib.hid (range_map_succ D k)
      obtain ⟨x, hx⟩ : ∃ x, D k = x := ⟨_, rfl⟩
      rw [hx] at HD2 HRS
      clear hx
      go_wp2_with fail
      refine HD2.out.mono ?_
      rintro e w3 ⟨rfl, hb3⟩
      have HB3 := Lib.hid (hs.out.1.trans (hb3.mono hs.out.1.size))
      have hown : w3.ownsRow w1.heap.size 3 1 u10 k (intsV ((List.range k).map D)) := World.ownsRow.of_below hs.out.2 hb3
      have hsz3 := HB3.out.size
      clear hb3 q0 q1 q2 HD2
      obtain ⟨xs, hxs⟩ : ∃ xs, intsV ((List.range k).map D) = xs := ⟨_, rfl⟩
      rw [hxs] at hown HRS
      go_wp2_with (at_builtin; refine wpList_append_own _ rfl _ _ 36 rfl w1.heap.size 3 i0 (.int .i64 0) 1 8 Try.underlying36 hi hz0 hz1 hz2 rfl (by decide) _ _ _ rfl (hown.alloc _) ⟨w3.heap.size, 0, none⟩ 1 1 [.int .i64 x] rfl rfl ?qc2 ?qc3 ?qc4 ?qc5 ?qc6 ?_)
      case qc2 => intro j u hj; match j, hj with | 0, hj => simp at hj; subst hj; simp [Addr.add]
      case qc3 => intro u hu; simp at hu; subst hu; rfl
      case qc4 => unfold maxLen; omega
      case qc5 => omega
      case qc6 => simp; omega
      intro v' w4 hown' hgrow _
      have HB4 : Hid (Below w1.heap.size w1 w4) := Lib.hid (by
        have h1 := HB3.out.trans (((Below.refl _ w3).alloc (Nat.le_refl _) (.cells #[.int .i64 x] 3)).mono HB3.out.size)
        exact h1.grown hgrow h1.size fun g hg => ((hown.alloc (.cells #[] 0)).lt g hg).1)
      have HO4 : Hid (w4.ownsRow w1.heap.size 3 1 v' (k + 1) (intsV ((List.range (k + 1)).map D))) := Lib.hid (by rw [HRS.out]; exact hown')
      clear hgrow hown' hown hxs
      go_wp2_with fail
      go_roundw
      case rel => exact ⟨k + 1, by omega, by go_num, Lib.hid ⟨HB4.out, HO4.out⟩⟩
      case measure => simp [intOf]; omega
    · obtain rfl : k = Nn := by omega
      go_wp2_with fail
      refine HGD.out ((List.range k).map D) _ _ w1.heap.size (by rw [← HQB.out]; exact HB1.out.size) HOK.out (by simp; omega) ?_ HBR.out
      have := hs.out.2
      rw [List.length_map, List.length_range]
      exact this
end Go.Proofs.Ytnmccbjdfdbgpaa
