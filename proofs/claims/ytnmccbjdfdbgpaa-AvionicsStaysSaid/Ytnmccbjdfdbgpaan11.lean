/- What is proved: the texts Bk Bl, one behind the other; each says at its head what it proves, and under which conditions. -/
import Derived.BigQuiet
import Derived.Test.Ytnmccbjdfdbgpaan10
/- What is proved: AvionicsStays returns true, and makes only memory. Conditions: the readings and numbers lie in memory. -/
namespace Go.Proofs.Ytnmccbjdfdbgpaa
open Go.ChangeShapes Go.WideShapes Go.ChangeAt Go.RowKit

section
variable {H : Type} {enc : TypeId × Value → H} {w : World} {cs : List Value} {base : Nat} {v : Value}
theorem rdRd (h : Rd enc Try.prog w 30 cs) : ∃ y : RdD, ∀ j, j < 2 → cs[j]? = some (rdC y j) := by
  obtain ⟨_, h2⟩ := h.fields (l := [(3, 0), (4, 1)]) und_rdS (by kernel_rfl)
  obtain ⟨b, e1, _⟩ := (h2 (3, 0) (by simp)).int und_int
  obtain ⟨c, e2⟩ := (h2 (4, 1) (by simp)).bool und_bool
  rw [cells_int] at e1
  rw [cells_bool] at e2
  refine ⟨⟨b, c⟩, fun j hj => ?_⟩
  match j, hj with
  | 0, _ => exact row_get e1
  | 1, _ => exact row_get e2
def rd8C (y : List RdD) (j : Nat) : Value := rdC (rdAt y (j / 2)) (j % 2)
theorem rwRd8 (h : RdW enc Try.prog w 37 cs) : ∃ y : List RdD, y.length = 8 ∧ ∀ j, j < 16 → cs[j]? = some (rd8C y j) := by
  obtain ⟨_, h2⟩ := h.array2 (e := 30) (n := 8) (by kernel_rfl)
  have h3 : ∀ i, i < 8 → ∃ y : RdD, ∀ j, j < 2 → cs[i * 2 + j]? = some (rdC y j) := fun i hi => by
    have h4 := h2 i hi
    rw [show Try.prog.cellsOf 30 = 2 from by kernel_rfl] at h4
    obtain ⟨y, hy⟩ := rdRd h4
    refine ⟨y, fun j hj => ?_⟩
    have := hy j hj
    rw [List.getElem?_take_of_lt hj, List.getElem?_drop] at this
    exact this
  obtain ⟨f, hf⟩ : ∃ f : Nat → RdD, ∀ i, i < 8 → ∀ j, j < 2 → cs[i * 2 + j]? = some (rdC (f i) j) :=
    ⟨fun i => if hi : i < 8 then Classical.choose (h3 i hi) else rd0, fun i hi => by dsimp only; rw [dif_pos hi]; exact Classical.choose_spec (h3 i hi)⟩
  refine ⟨(List.range 8).map f, by simp, fun j hj => ?_⟩
  have := hf (j / 2) (by omega) (j % 2) (by omega)
  rw [show j / 2 * 2 + j % 2 = j from by omega] at this
  rw [this]
  unfold rd8C rdAt
  have : j / 2 < 8 := by omega
  simp [List.getD_eq_getElem?_getD, this]
def rd8At (ls : List (List RdD)) (i : Nat) : List RdD := ls.getD i []
def Rd8sAt (w : World) (B : Nat) (A : Option Addr) (ls : List (List RdD)) : Prop := Sl w B 16 A ls.length fun i => rd8C (rd8At ls i)
set_option maxRecDepth 100000 in
theorem arg_rd8s (ho : Value.okWide Try.prog w .any base 35 v) (h : RdW enc Try.prog w 35 v.cells.toList) :
    ∃ (A : Option Addr) (c : Nat) (l : List (List RdD)), v = .slice A l.length c ∧ Rd8sAt w w.heap.size A l ∧ ∀ r ∈ l, r.length = 8 := by
  obtain ⟨A, c, l, e, hq, hs, _⟩ := h.list rd8C (fun y => y.length = 8) [] (e := 37) (by kernel_rfl) (k := 16) (by kernel_rfl) (by omega) (fun l _ hr => rwRd8 hr)
  exact ⟨A, c, l, okWide_sl (P := Try.prog) (t := 35) (e := 37) (by kernel_rfl) ho _ e, hs, hq⟩
end
/-- Block g begins with the readings f 0, .. f (n - 1). -/
def CurR (w : World) (g n : Nat) (f : Nat → RdD) : Prop := ∃ cur, Bk w g 30 cur ∧ ∀ i, i < n → ∀ j, j < 2 → cur[i * 2 + j]? = some (rdC (f i) j)
theorem CurR.below {w w' : World} {g n : Nat} {f : Nat → RdD} (h : CurR w g n f) (hb : Below w.heap.size w w') : CurR w' g n f := by
  obtain ⟨cur, h1, h2⟩ := h
  exact ⟨cur, h1.below hb h1.lt, h2⟩
theorem CurR.lt {w : World} {g n : Nat} {f : Nat → RdD} (h : CurR w g n f) : g < w.heap.size := by obtain ⟨_, h1, _⟩ := h; exact h1.lt
theorem CurR.cell {w : World} {g n : Nat} {f : Nat → RdD} (h : CurR w g n f) {i : Nat} (hi : i < n) : w.cell? ⟨g, i * 2, none⟩ = some (.int .i64 (f i).val) ∧ w.cell? ⟨g, i * 2 + 1, none⟩ = some (.bool (f i).there) := by
  obtain ⟨cur, h1, h2⟩ := h
  rw [h1.cell, h1.cell]
  exact ⟨h2 i hi 0 (by omega), h2 i hi 1 (by omega)⟩
theorem CurR.free {w : World} {g n : Nat} {f : Nat → RdD} (h : CurR w g n f) (i : Nat) : w.frozen? ⟨g, i, none⟩ = false := by obtain ⟨_, h1, _⟩ := h; exact h1.free i
theorem CurR.set {w : World} {g n : Nat} {f f' : Nat → RdD} (h : CurR w g n f) {k : Nat} (hk : k < n) (y : RdD) (hf : ∀ i, i < n → f' i = if i = k then y else f i) :
    CurR ((w.setCell ⟨g, k * 2, none⟩ (.int .i64 y.val)).setCell ⟨g, k * 2 + 1, none⟩ (.bool y.there)) g n f' := by
  obtain ⟨cur, h1, h2⟩ := h
  refine ⟨_, (h1.set (k * 2) _).set (k * 2 + 1) _, fun i hi j hj => ?_⟩
  have s0 := (Array.getElem?_eq_some_iff.1 (h2 k hk 0 (by omega))).1
  have s1 := (Array.getElem?_eq_some_iff.1 (h2 k hk 1 (by omega))).1
  rw [Array.getElem?_setIfInBounds, Array.getElem?_setIfInBounds, hf i hi]
  by_cases e : i = k
  · subst e
    rw [if_pos rfl]
    match j, hj with
    | 0, _ => rw [if_neg (by omega), if_pos (by omega), if_pos (by omega)]; rfl
    | 1, _ => rw [if_pos rfl, if_pos (by rw [Array.size_setIfInBounds]; omega)]; rfl
  · rw [if_neg e, if_neg (by omega), if_neg (by omega)]; exact h2 i hi j hj
theorem CurR.rds {w : World} {g : Nat} {l : List RdD} (h : CurR w g l.length (rdAt l)) (hn : l.length ≤ 4096) : RdsAt w w.heap.size (some ⟨g, 0, none⟩) l := by
  obtain ⟨cur, h1, h2⟩ := h
  exact ⟨by omega, fun _ => ⟨g, 0, rfl, h1.lt, fun i hi j hj => by rw [Nat.zero_add, h1.cell]; exact h2 i hi j hj⟩⟩
theorem CurR.congr {w : World} {g n : Nat} {f f' : Nat → RdD} (h : CurR w g n f) (hf : ∀ i, i < n → f i = f' i) : CurR w g n f' := by
  obtain ⟨cur, h1, h2⟩ := h
  exact ⟨cur, h1, fun i hi j hj => by rw [← hf i hi]; exact h2 i hi j hj⟩
theorem VotAt.far {w : World} {B : Nat} {X : VotX} {V : VotD} (h : VotAt w B X V) {g n : Nat} {f : Nat → RdD} (hg : CurR w g n f) (i : Nat) (u : Value) : VotAt (w.setCell ⟨g, i, none⟩ u) B X V := by
  obtain ⟨cur, h1, _⟩ := hg
  exact ⟨h.v.far (p := ⟨g, i, none⟩) (h.v.neT h1 (by decide)) u, h.l.far (p := ⟨g, i, none⟩) (h.l.neT h1 (by decide)) u, h.c.far (p := ⟨g, i, none⟩) (h.c.neT h1 (by decide)) u, h.lo, h.n, h.tol, h.pat⟩
theorem CurR.setCell {w : World} {g n : Nat} {f : Nat → RdD} (hg : CurR w g n f) (i : Nat) (u : Value) : CurR (w.setCell ⟨g, i, none⟩ u) g 0 f := by
  obtain ⟨cur, h1, _⟩ := hg
  exact ⟨_, h1.set i u, fun i hi => absurd hi (Nat.not_lt_zero i)⟩
theorem CurR.off {w : World} {B : Nat} {X : VotX} {V : VotD} (h : VotAt w B X V) {g n : Nat} {f : Nat → RdD} (hg : CurR w g n f) : RdsOff X (some ⟨g, 0, none⟩) := by
  obtain ⟨cur, h1, _⟩ := hg
  intro b off e
  injection e with e
  injection e with e1 _ _
  subst e1
  exact ⟨h1.neT h.l (by decide), h1.neT h.c (by decide)⟩
/-- A good reading. -/
def gdR (y : List RdD) (G t : Int) (i : Nat) : RdD := ⟨G + max ((rdAt y i).val.tmod (t + 1)) (-((rdAt y i).val.tmod (t + 1))), true⟩
def rndF (y : List RdD) (G t : Int) (k i : Nat) : RdD := if i < k then gdR y G t i else rdAt y i
def rndL (y : List RdD) (G t : Int) (k : Nat) : List RdD := (List.range 8).map (rndF y G t k)
theorem rndL_len (y : List RdD) (G t : Int) (k : Nat) : (rndL y G t k).length = 8 := by simp [rndL]
theorem rndL_at (y : List RdD) (G t : Int) (k : Nat) {i : Nat} (hi : i < 8) : rdAt (rndL y G t k) i = rndF y G t k i := by
  unfold rdAt rndL
  simp [List.getD_eq_getElem?_getD, hi]
theorem gdR_in (y : List RdD) {G t : Int} (ht : 0 ≤ t) (i : Nat) : (gdR y G t i).there = true ∧ G ≤ (gdR y G t i).val ∧ (gdR y G t i).val ≤ G + t := by
  have h1 := Int.tmod_lt_of_pos (rdAt y i).val (b := t + 1) (by omega)
  have h2 := Int.lt_tmod_of_pos (rdAt y i).val (b := t + 1) (by omega)
  refine ⟨rfl, ?_, ?_⟩
  · show G ≤ G + _; omega
  · show G + _ ≤ G + t; omega
theorem rnd_law {V : VotD} {y : List RdD} {G t : Int} {g : Nat} (hv : GoodV V g) (ht : V.tol = t) (ht0 : 0 ≤ t) (h5 : 5 ≤ g) (h8 : g ≤ 8) : GoodV (voteB V (rndL y G t g)).2 g := by
  refine stays_law (a := G) hv h5 h8 (rndL_len _ _ _ _) fun k hk => ?_
  rw [rndL_at _ _ _ _ (by omega)]
  unfold rndF
  rw [if_pos hk, ht]
  exact gdR_in y ht0 k
end Go.Proofs.Ytnmccbjdfdbgpaa
/- What is proved: AvionicsStays returns true, and makes only memory: the walk. Conditions: the readings and numbers lie in memory. -/
namespace Go.Proofs.Ytnmccbjdfdbgpaa
open Go.RowKit

theorem infoC_Rd : (Try.prog.info? 30).map (fun i => (i.zero, i.size, i.bytes)) = some (some (.agg #[.int .i64 0, .bool false]), 2, 16) := by kernel_rfl
/-- The world of a round of AvionicsStays. -/
structure StayW (w : World) (qb B : Nat) (x y z : Int) (X : VotX) (g : Nat) (wr : World) : Prop where
  bel : Below qb w wr
  box : Bk wr qb 34 #[.int .i64 x, .int .i64 y, .int .i64 z]
  vot : ∃ V, VotAt wr B X V ∧ GoodV V g ∧ V.tol = x
theorem StayW.below {w : World} {qb B : Nat} {x y z : Int} {X : VotX} {g : Nat} {wr w' : World} (h : StayW w qb B x y z X g wr) (hb : Below wr.heap.size wr w') : StayW w qb B x y z X g w' :=
  ⟨h.bel.trans (hb.mono (Nat.le_of_lt h.box.lt)), h.box.below hb h.box.lt, by obtain ⟨V, h1, h2⟩ := h.vot; exact ⟨V, h1.later hb, h2⟩⟩
theorem StayW.set {w : World} {qb B : Nat} {x y z : Int} {X : VotX} {g : Nat} {wr : World} (h : StayW w qb B x y z X g wr) {gb n : Nat} {f : Nat → RdD} (hg : CurR wr gb n f) (hq : qb < gb) (i : Nat) (u : Value) : StayW w qb B x y z X g (wr.setCell ⟨gb, i, none⟩ u) :=
  ⟨h.bel.setCell (p := ⟨gb, i, none⟩) (Nat.le_of_lt hq) _, h.box.far (p := ⟨gb, i, none⟩) (Nat.ne_of_lt hq) _, by obtain ⟨V, h1, h2⟩ := h.vot; exact ⟨V, h1.far hg i u, h2⟩⟩
set_option maxRecDepth 100000 in
set_option maxHeartbeats 16000000 in
theorem stays_any (w : World) (x y z : Int) (_hx : Wd x) (_hy : Wd y) (hz : Wd z) (A : Option Addr) (c : Nat) (ls : List (List RdD)) (h : Rd8sAt w w.heap.size A ls) (_hls : ∀ r ∈ ls, r.length = 8) (A' : Option Addr) (c' : Nat) (o : List Int) (h' : IntsAt w w.heap.size A' o) (_hw : ∀ n ∈ o, Wd n) :
    Calls Try.prog 4 #[.agg #[.int .i64 x, .int .i64 y, .int .i64 z], .slice A ls.length c, .slice A' o.length c'] w fun e w' => e = .returned (.bool true) ∧ Below w.heap.size w w' := by
  clear _hls _hx _hy _hw
  have HL := Lib.hid h
  have HO := Lib.hid h'
  have hll := h.1
  have hlo := h'.1
  obtain ⟨qb, hqb⟩ : ∃ qb, w.heap.size = qb := ⟨_, rfl⟩
  have HQB := Lib.hid hqb
  obtain ⟨W0, hW0⟩ : ∃ W0, w.alloc (.cells #[.int .i64 x, .int .i64 y, .int .i64 z] 34) = W0 := ⟨_, rfl⟩
  have HB0 : Hid (Below qb w W0) := Lib.hid (by rw [← hW0, ← hqb]; exact (Below.refl _ w).alloc (Nat.le_refl _) _)
  have HK0 : Hid (Bk W0 qb 34 #[.int .i64 x, .int .i64 y, .int .i64 z]) := Lib.hid (by rw [← hW0, ← hqb]; exact Bk.new _ _ _)
  have HTR : Hid (∀ a b, Below qb w a → Below a.heap.size a b → Below qb w b) := Lib.hid fun a b h1 h2 => h1.trans (h2.mono (by rw [← hqb]; exact h1.size))
  have HFIN : Hid (∀ (e : Ending) (w' : World), e = .returned (.bool true) → Below qb w w' → e = .returned (.bool true) ∧ Below qb w w') := Lib.hid fun _ _ a b => ⟨a, b⟩
  have HNV := Lib.hid (newVoter_any W0 8 x y)
  have HNV2 : Hid (∀ e w1, NewPost W0 8 x y e w1 → Below W0.heap.size W0 w1 ∧ (e = .returned (.tuple #[.pointer none, .int .i64 4]) ∨ (0 ≤ x ∧ x ≤ 1073741824 ∧ ∃ X, e = .returned (.tuple #[.pointer (some ⟨X.vb, 0, none⟩), .int .i64 0]) ∧ VotAt w1 W0.heap.size X (newV 8 x y)))) := Lib.hid fun e w1 ⟨h1, h2, h3⟩ => by
    refine ⟨h1, ?_⟩
    cases hb : newOk 8 x y with
    | false => exact Or.inl (h2 hb)
    | true =>
      right
      obtain ⟨X, hX, hv⟩ := h3 hb
      exact ⟨hv.tol.1, hv.tol.2, X, hX, hv⟩
  obtain ⟨Q1, hQ1⟩ : ∃ Q, NewPost W0 8 x y = Q := ⟨_, rfl⟩
  rw [hQ1] at HNV HNV2
  have hsz0 : qb < W0.heap.size := HK0.out.lt
  obtain ⟨n, hn⟩ : ∃ n, ls.length = n := ⟨_, rfl⟩
  have HN := Lib.hid hn
  obtain ⟨no, hno⟩ : ∃ no, o.length = no := ⟨_, rfl⟩
  have HNO := Lib.hid hno
  have q0 : W0.cell? ⟨qb, 0, none⟩ = some (.int .i64 x) := HK0.out.cell 0
  have q1 : W0.cell? ⟨qb, 1, none⟩ = some (.int .i64 y) := HK0.out.cell 1
  rw [hn] at hll ⊢
  rw [hno] at hlo ⊢
  rw [hqb]
  clear h h' hn hno hQ1
  go_enter Try.func4, Try.ntmps4
  go_upto_region 1 with (fail)
  clear hqb hW0
  go_wp2_with fail
  refine HNV.out.mono ?_
  intro e w1 hp1
  obtain ⟨hb1, hcase⟩ := HNV2.out _ _ hp1
  have HB1 := Lib.hid (HTR.out _ _ HB0.out hb1)
  have HK1 := Lib.hid (HK0.out.below hb1 HK0.out.lt)
  clear hp1 HNV HNV2 q0 q1
  rcases hcase with rfl | ⟨hx0, hx1, X, rfl, hv⟩
  · clear hb1
    go_wp2_with fail
    refine (awake_any _).mono ?_
    rintro e w2 ⟨rfl, hb2⟩
    go_wp2_with fail
    go_ret
    exact HFIN.out _ _ rfl (HTR.out _ _ HB1.out hb2)
  have HV := Lib.hid hv
  clear hv hb1
  have q0 : w1.cell? ⟨qb, 0, none⟩ = some (.int .i64 x) := HK1.out.cell 0
  have q2 : w1.cell? ⟨qb, 2, none⟩ = some (.int .i64 z) := HK1.out.cell 2
  by_cases h5 : z < 5
  · go_wp2_with fail
    refine (awake_any _).mono ?_
    rintro e w2 ⟨rfl, hb2⟩
    go_wp2_with fail
    go_ret
    exact HFIN.out _ _ rfl (HTR.out _ _ HB1.out hb2)
  by_cases h8 : 8 < z
  · go_wp2_with fail
    refine (awake_any _).mono ?_
    rintro e w2 ⟨rfl, hb2⟩
    go_wp2_with fail
    go_ret
    exact HFIN.out _ _ rfl (HTR.out _ _ HB1.out hb2)
  by_cases h60 : 60 < n
  · have h60i : (60 : Int) < (n : Int) := by omega
    go_wp2_with fail
    refine (awake_any _).mono ?_
    rintro e w2 ⟨rfl, hb2⟩
    go_wp2_with fail
    go_ret
    exact HFIN.out _ _ rfl (HTR.out _ _ HB1.out hb2)
  have h60i : ¬ (60 : Int) < (n : Int) := by omega
  by_cases hnn : no < n
  · have hnni : (no : Int) < (n : Int) := by omega
    go_wp2_with fail
    refine (awake_any _).mono ?_
    rintro e w2 ⟨rfl, hb2⟩
    go_wp2_with fail
    go_ret
    exact HFIN.out _ _ rfl (HTR.out _ _ HB1.out hb2)
  have hnni : ¬ (no : Int) < (n : Int) := by omega
  by_cases hxx : 1048576 < x
  · go_wp2_with fail
    refine (awake_any _).mono ?_
    rintro e w2 ⟨rfl, hb2⟩
    go_wp2_with fail
    go_ret
    exact HFIN.out _ _ rfl (HTR.out _ _ HB1.out hb2)
  obtain ⟨g, rfl⟩ : ∃ g : Nat, z = g := ⟨z.toNat, by omega⟩
  have hg5 : 5 ≤ g := by omega
  have hg8 : g ≤ 8 := by omega
  obtain ⟨B, hB⟩ : ∃ B, W0.heap.size = B := ⟨_, rfl⟩
  rw [hB] at HV hsz0
  have HS1 : Hid (StayW w qb B x y g X g w1) := Lib.hid ⟨HB1.out, HK1.out, _, HV.out, GoodV.new HV.out.pat.1 g, rfl⟩
  clear HV hB
  go_wp2_with fail
  clear q0 q2
  go_loopw [9] (fun i wr => ∃ k : Nat, k ≤ n ∧ i = .int .i64 k ∧ Hid (StayW w qb B x y g X g wr)) (fun i _ => n - (intOf i).toNat)
  case atStart => exact ⟨0, Nat.zero_le _, rfl, HS1⟩
  case round =>
    clear HS1
    obtain ⟨k, hk, rfl, hs⟩ := hrel
    by_cases hlt : k < n
    · have hki : (k : Int) < (n : Int) := by omega
      have h0k : (0 : Int) ≤ (k : Int) := by omega
      obtain ⟨bb, off, rfl, hbb, hcell⟩ := HL.out.2 (by rw [HN.out]; omega)
      obtain ⟨i0, hi, hz0, hz1, hz2⟩ := info_parts infoC_Rd
      have HCELL : Hid (∀ ob j u, (rowsL 8 2 fun i => rdC (rdAt (rd8At ls k) i))[j]? = some u → (wr.alloc ob).cell? ((⟨bb, off + k * 16, none⟩ : Addr).add j) = some u) := Lib.hid fun ob j u hj => by
        rw [Addr.add_lit]
        refine Lib.cell?_alloc_some _ (rowsL_cell (fun i hi j hj => ?_) j u hj)
        have h6 := hcell k (by rw [HN.out]; exact hlt) (i * 2 + j) (by omega)
        have h7 := (bcells hs.out.bel).1 bb (off + k * 16 + (i * 2 + j)) (by rw [← HQB.out]; exact hbb)
        rw [show off + k * 16 + i * 2 + j = off + k * 16 + (i * 2 + j) from by omega, h7, h6]
        show some (rdC (rdAt (rd8At ls k) ((i * 2 + j) / 2)) ((i * 2 + j) % 2)) = _
        rw [show (i * 2 + j) / 2 = i from by omega, show (i * 2 + j) % 2 = j from by omega]
      clear hcell hbb
      go_wp2_with (at_builtin; refine wpList_append_own _ rfl _ _ 22 rfl wr.heap.size 30 i0 (.agg #[.int .i64 0, .bool false]) 2 16 Try.underlying22 hi hz0 hz1 hz2 rfl (by decide) _ _ _ rfl (World.ownsRow_made wr #[] 0 (Nat.le_refl _) (Nat.zero_le _) rfl) ⟨bb, off + k * 16, none⟩ 8 8 (rowsL 8 2 fun i => rdC (rdAt (rd8At ls k) i)) rfl ?qc1 ?qc2 ?qc3 ?qc4 ?qc5 ?qc6 ?_)
      case qc1 => exact rowsL_len _ _ _
      case qc2 => exact HCELL.out _
      case qc3 => exact rowsL_one fun i j => by unfold rdC; split <;> rfl
      case qc4 => unfold maxLen; omega
      case qc5 => omega
      case qc6 => simp
      intro v' w3 hown hgrow _
      obtain ⟨A3, c3, rfl, hcl⟩ := Cl.of_own (by omega) hown
      have hb3 : Below wr.heap.size wr w3 := ((Below.refl _ wr).alloc (Nat.le_refl _) _).grown hgrow (by simp) (by intro k hk; simp [Value.ownBlock] at hk; omega)
      obtain ⟨gb, cur, rfl, hge, hbk, hcc⟩ := hcl.2 (by omega)
      have hqg : qb < gb := by have := hs.out.box.lt; omega
      obtain ⟨ys, hys⟩ : ∃ ys, rd8At ls k = ys := ⟨_, rfl⟩
      rw [hys] at hcc
      have HC3 : Hid (CurR w3 gb 8 (rdAt ys)) := Lib.hid ⟨cur, hbk, hcc⟩
      have HS3 := Lib.hid (hs.out.below hb3)
      obtain ⟨y0, hy0⟩ : ∃ y0, getI o k = y0 := ⟨_, rfl⟩
      have HY0 := Lib.hid hy0
      obtain ⟨G, hG⟩ : ∃ G, y0.tmod 1048576 = G := ⟨_, rfl⟩
      have hGb : -1048576 < G ∧ G < 1048576 := by
        rw [← hG]
        have h6 := Int.tmod_lt_of_pos y0 (b := 1048576) (by omega)
        have h7 := Int.lt_tmod_of_pos y0 (b := 1048576) (by omega)
        omega
      have HR0 : Hid (CurR w3 gb 8 (rndF ys G x 0)) := Lib.hid (HC3.out.congr fun i _ => by unfold rndF; rw [if_neg (Nat.not_lt_zero i)])
      clear hown hgrow hcl hb3 hge hbk hcc hys hs HC3 HCELL hy0
      go_wp2_with fail
      go_loopw [11] (fun i w4 => ∃ j : Nat, j ≤ g ∧ i = .int .i64 j ∧ Hid (StayW w qb B x y g X g w4 ∧ CurR w4 gb 8 (rndF ys G x j))) (fun i _ => g - (intOf i).toNat)
      case atStart => exact ⟨0, Nat.zero_le _, rfl, Lib.hid ⟨HS3.out, HR0.out⟩⟩
      case round =>
        clear HS3 HR0
        obtain ⟨j, hj, rfl, hs⟩ := hrel
        have c2 : wr.cell? ⟨qb, 2, none⟩ = some (.int .i64 g) := hs.out.1.box.cell 2
        by_cases hjg : j < g
        · have hji : (j : Int) < (g : Int) := by omega
          have h0j : (0 : Int) ≤ (j : Int) := by omega
          have hj8 : j < 8 := by omega
          have hj8i : (j : Int) < 8 := by omega
          have c0 : wr.cell? ⟨qb, 0, none⟩ = some (.int .i64 x) := hs.out.1.box.cell 0
          obtain ⟨hv0, hv1⟩ := hs.out.2.cell hj8
          have hrf : rndF ys G x j j = rdAt ys j := by unfold rndF; rw [if_neg (Nat.lt_irrefl j)]
          rw [hrf] at hv0 hv1
          have hgd : gdR ys G x j = ⟨G + max ((rdAt ys j).val.tmod (x + 1)) (-((rdAt ys j).val.tmod (x + 1))), true⟩ := rfl
          have HRS : Hid (∀ i, i < 8 → rndF ys G x (j + 1) i = if i = j then gdR ys G x j else rndF ys G x j i) := Lib.hid fun i _ => by
            unfold rndF
            by_cases e : i = j
            · subst e; rw [if_pos (Nat.lt_succ_self i), if_pos rfl]
            · rw [if_neg e]
              by_cases e2 : i < j
              · rw [if_pos e2, if_pos (by omega)]
              · rw [if_neg e2, if_neg (by omega)]
          obtain ⟨tb, htb⟩ : ∃ tb, (rdAt ys j).there = tb := ⟨_, rfl⟩
          rw [htb] at hv1
          obtain ⟨v, hv⟩ : ∃ v, (rdAt ys j).val = v := ⟨_, rfl⟩
          rw [hv] at hv0 hgd
          obtain ⟨ov, hov⟩ : ∃ ov, v.tmod (x + 1) = ov := ⟨_, rfl⟩
          have hob : -(x + 1) < ov ∧ ov < x + 1 := by
            rw [← hov]
            have h6 := Int.tmod_lt_of_pos v (b := x + 1) (by omega)
            have h7 := Int.lt_tmod_of_pos v (b := x + 1) (by omega)
            omega
          rw [hov] at hgd
          obtain ⟨mx, hmx⟩ : ∃ mx, max ov (-ov) = mx := ⟨_, rfl⟩
          have hmb : 0 ≤ mx ∧ mx ≤ 1048576 := by rw [← hmx]; omega
          rw [hmx] at hgd
          have HGD := Lib.hid hgd
          have hx1' : ¬ x + 1 = 0 := by omega
          obtain ⟨bo, oo, rfl, _, e0⟩ := Sl.at1 (Sl.below HO.out (by rw [HQB.out]; exact hs.out.1.bel)) (i := k) (by rw [HNO.out]; omega)
          have hko : (k : Int) < (no : Int) := by omega
          try dsimp only at e0
          rw [HY0.out] at e0
          have f0 := hs.out.2.free (j * 2)
          have f1 := hs.out.2.free (j * 2 + 1)
          clear hrf hgd htb hv
          go_wp2_with fail
          go_quiet (fail)
          go_wp2_with fail
          have HN1 : Hid (StayW w qb B x y g X g (((wr.drewN nq).setCell ⟨gb, j * 2, none⟩ (.int .i64 (G + mx))).setCell ⟨gb, j * 2 + 1, none⟩ (.bool true)) ∧ CurR (((wr.drewN nq).setCell ⟨gb, j * 2, none⟩ (.int .i64 (G + mx))).setCell ⟨gb, j * 2 + 1, none⟩ (.bool true)) gb 8 (rndF ys G x (j + 1))) := Lib.hid (by
            have h6 := hs.out.1.below (below_drewN (Below.refl _ wr) nq)
            have h7 := hs.out.2.below (below_drewN (Below.refl _ wr) nq)
            refine ⟨(h6.set h7 hqg (j * 2) _).set (h7.setCell (j * 2) _) hqg (j * 2 + 1) _, ?_⟩
            exact h7.set hj8 ⟨G + mx, true⟩ fun i hi => by rw [HRS.out i hi, HGD.out])
          obtain ⟨w5, hw5⟩ : ∃ w5, ((wr.drewN nq).setCell ⟨gb, j * 2, none⟩ (.int .i64 (G + mx))).setCell ⟨gb, j * 2 + 1, none⟩ (.bool true) = w5 := ⟨_, rfl⟩
          rw [hw5] at HN1
          try rw [hw5]
          clear hw5 c2 c0 hv0 hv1 e0 f0 f1
          go_roundw
          case rel => exact ⟨j + 1, by omega, by go_num, HN1⟩
          case measure => simp [intOf]; omega
        · obtain rfl : j = g := by omega
          have HR : Hid (CurR wr gb (rndL ys G x j).length (rdAt (rndL ys G x j))) := Lib.hid (by
            rw [rndL_len]
            exact hs.out.2.congr fun i hi => (rndL_at ys G x j hi).symm)
          obtain ⟨V, hV1, hV2, hV3⟩ := hs.out.1.vot
          have hlen := rndL_len ys G x j
          have HLAW := Lib.hid (rnd_law (y := ys) (G := G) hV2 hV3 hx0 hg5 hg8)
          have hVC := vote_any wr B X V hV1 (some ⟨gb, 0, none⟩) c3 (rndL ys G x j) (HR.out.rds (by rw [hlen]; omega)) (CurR.off hV1 HR.out)
          obtain ⟨V2, hV2e⟩ : ∃ V2, (voteB V (rndL ys G x j)).2 = V2 := ⟨_, rfl⟩
          have htol : V2.tol = x := by rw [← hV2e]; exact (voteB_same V (rndL ys G x j)).2.1.trans hV3
          have HTOL := Lib.hid htol
          obtain ⟨ra, hra⟩ : ∃ ra, (voteB V (rndL ys G x j)).1.1 = ra := ⟨_, rfl⟩
          obtain ⟨rb, hrb⟩ : ∃ rb, (voteB V (rndL ys G x j)).1.2 = rb := ⟨_, rfl⟩
          unfold VotePost at hVC
          rw [hra, hrb, hV2e, hlen] at hVC
          rw [hV2e] at HLAW
          have HVC := Lib.hid hVC
          have hlo := hV1.lo
          have HS := Lib.hid hs.out.1
          clear hVC hV1 hV2 hV3 hV2e hra hrb htol HR hlen hs
          go_wp2_with fail
          refine HVC.out.mono ?_
          rintro e w5 ⟨rfl, hv5, hc5⟩
          have HV5 := Lib.hid hv5
          have HK5 : Hid (Bk w5 qb 34 #[.int .i64 x, .int .i64 y, .int .i64 j]) := Lib.hid ((hc5.block qb HS.out.box.lt (by omega) (by omega)).trans HS.out.box)
          have HB5 : Hid (Below qb w w5) := Lib.hid (HS.out.bel.trans (hc5.below (by have := HS.out.box.lt; omega) (by omega) (by omega)))
          have hV8 := HLAW.out.n
          have HLV := Lib.hid (live_any w5 B X V2 hv5)
          rw [hV8] at HLV
          clear hv5 hc5 HVC HS
          go_wp2_with fail
          refine HLV.out.mono ?_
          rintro e w6 ⟨A6, c6, rfl, hcl6, hb6⟩
          have HS6 : Hid (StayW w qb B x y j X j w6) := Lib.hid ⟨HTR.out _ _ HB5.out hb6, HK5.out.below hb6 HK5.out.lt, V2, HV5.out.later hb6, HLAW.out, HTOL.out⟩
          have HLS : Hid (Sl w6 w6.heap.size 1 A6 8 fun i _ => .bool (V2.live i)) := Lib.hid hcl6.sl
          clear hcl6 hb6 HLV
          go_wp2_with fail
          go_loopw [14] (fun i w7 => ∃ r : Nat, r ≤ j ∧ i = .int .i64 r ∧ w7 = w6) (fun i _ => j - (intOf i).toNat)
          case atStart => exact ⟨0, Nat.zero_le _, rfl, rfl⟩
          case round =>
            obtain ⟨r, hr, rfl, rfl⟩ := hrel
            have c2 : wr.cell? ⟨qb, 2, none⟩ = some (.int .i64 j) := HS6.out.box.cell 2
            by_cases hrj : r < j
            · have hri : (r : Int) < (j : Int) := by omega
              have h0r : (0 : Int) ≤ (r : Int) := by omega
              have hr8 : (r : Int) < 8 := by omega
              obtain ⟨bl, ol, rfl, _, d0⟩ := Sl.at1 HLS.out (i := r) (by omega)
              rw [(HLAW.out.good r hrj).1] at d0
              go_wp2_with fail
              go_roundw
              case rel => exact ⟨r + 1, by omega, by go_num, trivial⟩
              case measure => simp [intOf]; omega
            · obtain rfl : r = j := by omega
              go_wp2_with fail
              go_roundw
              case rel => first | exact ⟨k + 1, by omega, by go_num, HS6⟩ | ((repeat apply Exists.intro); exact ⟨⟨k + 1, by omega, by go_num, HS6⟩, rfl⟩)
              case measure => simp [intOf]; omega
    · obtain rfl : k = n := by omega
      go_wp2_with fail
      refine (awake_any _).mono ?_
      rintro e w6 ⟨rfl, hb6⟩
      go_wp2_with fail
      go_ret
      exact HFIN.out _ _ rfl (HTR.out _ _ hs.out.bel hb6)
end Go.Proofs.Ytnmccbjdfdbgpaa
