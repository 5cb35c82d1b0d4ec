/- What is proved: the texts Cg, one behind the other; each says at its head what it proves, and under which conditions. -/
import Derived.Test.Ytnmccbjdfdbgpaan16
/- What is proved: AvionicsVotes returns true, and makes only memory. Conditions: the readings lie in memory. -/
namespace Go.Proofs.Ytnmccbjdfdbgpaa
open Go.RowKit

theorem Sl.keep {w w' : World} {k n : Nat} {A : Option Addr} {f : Nat → Nat → Value} (h : Sl w w.heap.size k A n f) (hs : w.heap.size ≤ w'.heap.size) (hb : ∀ b off, A = some ⟨b, off, none⟩ → b < w.heap.size → w'.heap[b]? = w.heap[b]?) : Sl w' w'.heap.size k A n f :=
  ⟨h.1, fun hn => by
    obtain ⟨b, off, e, hB, hc⟩ := h.2 hn
    exact ⟨b, off, e, Nat.lt_of_lt_of_le hB hs, fun i hi j hj => (World.cell?_of_block (hb b off e hB)).trans (hc i hi j hj)⟩⟩
theorem RVot.keep {w w' : World} {V : VotD} {Al Ac : Option Addr} (h : RVot w V Al Ac) (hs : w.heap.size ≤ w'.heap.size) (hl : ∀ b off, Al = some ⟨b, off, none⟩ → b < w.heap.size → w'.heap[b]? = w.heap[b]?) (hc : ∀ b off, Ac = some ⟨b, off, none⟩ → b < w.heap.size → w'.heap[b]? = w.heap[b]?) : RVot w' V Al Ac :=
  ⟨h.l.keep hs hl, h.c.keep hs hc, fun b off e => by obtain ⟨cs, hk⟩ := h.tl b off e; exact ⟨cs, (hl b off e hk.lt).trans hk⟩, fun b off e => by obtain ⟨cs, hk⟩ := h.tc b off e; exact ⟨cs, (hc b off e hk.lt).trans hk⟩⟩
theorem RVot.chg {w w' : World} {V : VotD} {Al Ac : Option Addr} {X : VotX} (h : RVot w V Al Ac) (hl : RdsOff X Al) (hc : RdsOff X Ac) (hg : ChgV X w w') : RVot w' V Al Ac :=
  h.keep hg.size (fun b off e hb => hg.block b hb (hl b off e).1 (hl b off e).2) fun b off e hb => hg.block b hb (hc b off e).1 (hc b off e).2
theorem RVot.only {w w' : World} {V : VotD} {Al Ac : Option Addr} {g : Nat} {cs : Array Value} (h : RVot w V Al Ac) (hg : Bk w g 63 cs) (ho : Only g w w') : RVot w' V Al Ac :=
  h.keep (by rw [ho.size]; exact Nat.le_refl _) (fun b off e _ => ho.block b (by obtain ⟨cs', hk⟩ := h.tl b off e; exact hk.neT hg (by decide))) fun b off e _ => ho.block b (by obtain ⟨cs', hk⟩ := h.tc b off e; exact hk.neT hg (by decide))
theorem Bk.chgV {w w' : World} {X : VotX} {b T : Nat} {cs : Array Value} (h : Bk w b T cs) (hg : ChgV X w w') (h1 : b ≠ X.lb) (h2 : b ≠ X.cb) : Bk w' b T cs := (hg.block b h.lt h1 h2).trans h
theorem splA_all4 (cs S : Array Value) (h : S.size = cs.size) : splA cs 0 S.toList = S := by
  apply Array.ext_getElem?
  intro i
  rw [splA_get _ _ _ _ (by simp; omega)]
  by_cases hi : i < S.size
  · rw [if_pos (by simpa using hi)]; simp
  · rw [if_neg (by simpa using hi), Array.getElem?_eq_none (by omega), Array.getElem?_eq_none (by omega)]
theorem rvA_one (V : VotD) (Al : Option Addr) (cl : Nat) (Ac : Option Addr) (cc : Nat) : ∀ u ∈ (rvA V Al cl Ac cc).toList, u.oneCell' = true := by
  simp [rvA, Value.oneCell']
def VBox (w : World) (nb : Nat) : Prop := ∃ cs, Bk w nb 63 cs ∧ cs.size = 4
theorem VBox.only {w w' : World} {g nb : Nat} (h : VBox w nb) (ho : Only g w w') (hg : VBox w' g) : VBox w' nb := by
  by_cases e : nb = g
  · subst e; exact hg
  · obtain ⟨cs, h1, h2⟩ := h; exact ⟨cs, h1.only ho e, h2⟩
/-- What an operation of 's, y, e2 := ref.Vote(..)' does: 11 stores into a voter's block, the others make memory. -/
def VsE (j : Nat) (w1 w2 : World) : Prop :=
  (j ≠ 11 → Below w1.heap.size w1 w2) ∧ (j = 11 → ∃ g cs, Bk w1 g 63 cs ∧ Only g w1 w2 ∧ VBox w2 g)
theorem VsE.same (w : World) {j : Nat} (hj : j ≠ 11) : VsE j w w := ⟨fun _ => Below.refl _ _, fun h => absurd h hj⟩
theorem VsE.below {w w' : World} {j : Nat} (hj : j ≠ 11) (hb : Below w.heap.size w w') : VsE j w w' := ⟨fun _ => hb, fun h => absurd h hj⟩
/-- The list of a voter of the document, its address off the blocks of X. -/
structure RVo (w : World) (X : VotX) (U : VotD) (Al Ac : Option Addr) : Prop where
  rv : RVot w U Al Ac
  ol : RdsOff X Al
  oc : RdsOff X Ac
theorem RVo.step {w w' : World} {X : VotX} {U : VotD} {Al Ac : Option Addr} {j : Nat} (h : RVo w X U Al Ac) (he : VsE j w w') : RVo w' X U Al Ac := by
  by_cases hj : j = 11
  · obtain ⟨g, cs, h1, h2, _⟩ := he.2 hj
    exact ⟨h.rv.only h1 h2, h.ol, h.oc⟩
  · exact ⟨h.rv.later (he.1 hj), h.ol, h.oc⟩
theorem VBox.step {w w' : World} {nb j : Nat} (h : VBox w nb) (he : VsE j w w') : VBox w' nb := by
  by_cases hj : j = 11
  · obtain ⟨g, cs, h1, h2, h3⟩ := he.2 hj
    exact h.only h2 h3
  · obtain ⟨cs, h1, h2⟩ := h
    exact ⟨cs, h1.below (he.1 hj) h1.lt, h2⟩
def VsR (X : VotX) (U : VotD) (x er : Int) (hs0 : Nat) (ix : Nat) (u : Value) (d : Nat → Value) (w1 : World) : Prop :=
  (ix = 5 ∨ ix = 6 → ∃ Al cl Ac cc, u = .tuple #[.agg (rvA U Al cl Ac cc), .int .i64 x, .int .i64 er] ∧ RVo w1 X U Al Ac) ∧
  (ix = 7 → ∃ Al cl Ac cc, u = .agg (rvA U Al cl Ac cc) ∧ RVo w1 X U Al Ac) ∧
  (ix = 10 → ∃ nb, u = .pointer (some ⟨nb, 0, none⟩) ∧ hs0 ≤ nb ∧ VBox w1 nb) ∧
  (ix = 11 → ∃ Al cl Ac cc nb, d 10 = .pointer (some ⟨nb, 0, none⟩) ∧ hs0 ≤ nb ∧ Bk w1 nb 63 (rvA U Al cl Ac cc) ∧ RVo w1 X U Al Ac)
theorem VsR.keep {X : VotX} {U : VotD} {x er : Int} {hs0 i j : Nat} {u : Value} {d : Nat → Value} {w1 w2 : World} (hij : i ≠ j) (h : VsR X U x er hs0 i u d w1) (he : VsE j w1 w2) : VsR X U x er hs0 i u d w2 := by
  obtain ⟨h1, h2, h3, h4⟩ := h
  refine ⟨fun e => ?_, fun e => ?_, fun e => ?_, fun e => ?_⟩
  · obtain ⟨Al, cl, Ac, cc, g1, g2⟩ := h1 e; exact ⟨Al, cl, Ac, cc, g1, g2.step he⟩
  · obtain ⟨Al, cl, Ac, cc, g1, g2⟩ := h2 e; exact ⟨Al, cl, Ac, cc, g1, g2.step he⟩
  · obtain ⟨nb, g1, g2, g3⟩ := h3 e; exact ⟨nb, g1, g2, g3.step he⟩
  · obtain ⟨Al, cl, Ac, cc, nb, g1, g2, g3, g4⟩ := h4 e
    have hj : j ≠ 11 := fun e2 => hij (e.trans e2.symm)
    exact ⟨Al, cl, Ac, cc, nb, g1, g2, g3.below (he.1 hj) g3.lt, g4.step he⟩
/-- The world of a round of AvionicsVotes. -/
structure VoW (w : World) (qb gb B : Nat) (X : VotX) (V V' : VotD) (Al : Option Addr) (cl : Nat) (Ac : Option Addr) (cc : Nat) (wr : World) : Prop where
  bel : Below qb w wr
  vot : VotAt wr B X V
  box : Bk wr gb 63 (rvA V' Al cl Ac cc)
  rv : RVo wr X V' Al Ac
  lo : qb ≤ gb ∧ qb ≤ B
section
variable {w : World} {qb gb B : Nat} {X : VotX} {V V' : VotD} {Al : Option Addr} {cl : Nat} {Ac : Option Addr} {cc : Nat} {wr : World}
theorem VoW.later {w' : World} (h : VoW w qb gb B X V V' Al cl Ac cc wr) (hb : Below wr.heap.size wr w') : VoW w qb gb B X V V' Al cl Ac cc w' :=
  ⟨h.bel.trans (hb.mono (by have := h.bel.size; have := h.box.lt; have := h.lo; omega)), h.vot.later hb, h.box.below hb h.box.lt, ⟨h.rv.rv.later hb, h.rv.ol, h.rv.oc⟩, h.lo⟩
theorem VoW.vote {U : VotD} {w' : World} (h : VoW w qb gb B X V V' Al cl Ac cc wr) (hv : VotAt w' B X U) (hc : ChgV X wr w') : VoW w qb gb B X U V' Al cl Ac cc w' :=
  ⟨h.bel.trans (hc.below (by have := h.box.lt; have := h.lo; omega) (by have := h.vot.lo; have := h.lo; omega) (by have := h.vot.lo; have := h.lo; omega)), hv, h.box.chgV hc (h.box.neT h.vot.l (by decide)) (h.box.neT h.vot.c (by decide)), ⟨h.rv.rv.chg h.rv.ol h.rv.oc hc, h.rv.ol, h.rv.oc⟩, h.lo⟩
theorem VoW.store {U : VotD} {w4 : World} {Al' : Option Addr} {cl' : Nat} {Ac' : Option Addr} {cc' : Nat} {x0 x1 x2 x3 : Value} (h : VoW w qb gb B X V V' Al cl Ac cc w4) (hr : RVo w4 X U Al' Ac') (hx : #[x0, x1, x2, x3] = rvA U Al' cl' Ac' cc') :
    VoW w qb gb B X V U Al' cl' Ac' cc' ((((w4.setCell ⟨gb, 0, none⟩ x0).setCell ⟨gb, 1, none⟩ x1).setCell ⟨gb, 2, none⟩ x2).setCell ⟨gb, 3, none⟩ x3) := by
  have ho := Only.set4 w4 gb x0 x1 x2 x3
  refine ⟨h.bel.trans (ho.below h.lo.1), ⟨h.vot.v.only ho (h.vot.v.neT h.box (by decide)), h.vot.l.only ho (h.vot.l.neT h.box (by decide)), h.vot.c.only ho (h.vot.c.neT h.box (by decide)), h.vot.lo, h.vot.n, h.vot.tol, h.vot.pat⟩, ?_, ⟨hr.rv.only h.box ho, hr.ol, hr.oc⟩, h.lo⟩
  rw [← hx]
  exact Bk.set4 h.box _ _ _ _
end
set_option maxRecDepth 100000 in
theorem vote_nil (w : World) (B : Nat) (X : VotX) (V : VotD) (h : VotAt w B X V) (A : Option Addr) (c : Nat) :
    Calls Try.prog 17 #[.pointer (some ⟨X.vb, 0, none⟩), .slice A 0 c] w (VotePost w B X V []) := by
  have HI := Lib.hid (is_any w B X V h)
  have hn1 := h.n
  have hvo : voteB V [] = ((0, 2), V) := by unfold voteB; rw [if_pos (by show ¬ (0 = V.n); omega)]
  have HFIN : Hid (∀ e, e = .returned (.tuple #[.int .i64 0, .int .i64 2]) → VotePost w B X V [] e w) := Lib.hid fun _ he => ⟨by rw [hvo]; exact he, by rw [hvo]; exact h, ChgV.refl _ _⟩
  obtain ⟨n, hn⟩ : ∃ n, V.n = n := ⟨_, rfl⟩
  have c2 : w.cell? ⟨X.vb, 2, none⟩ = some (.slice (some ⟨X.lb, 0, none⟩) n n) := by rw [← hn]; exact h.v.cell 2
  rw [hn] at hn1
  have hni : ¬ ((0 : Int) = (n : Int)) := by omega
  clear h hn hvo
  go_enter Try.func17, Try.ntmps17
  go_wp2_with fail
  refine HI.out.mono ?_
  rintro e w' ⟨rfl, rfl⟩
  go_wp2_with fail
  go_ret2
  exact HFIN.out _ rfl
/-- The contracts of a round. -/
theorem vote_round {w : World} {qb gb B : Nat} {X : VotX} {V V' : VotD} {Al : Option Addr} {cl : Nat} {Ac : Option Addr} {cc : Nat} {wr : World} (h : VoW w qb gb B X V V' Al cl Ac cc wr) (A : Option Addr) (c : Nat) (l : List RdD) (hl : RdsAt wr wr.heap.size A l) (hx : 0 < l.length → RdsOff X A) :
    Calls Try.prog 17 #[.pointer (some ⟨X.vb, 0, none⟩), .slice A l.length c] wr fun e w' => e = .returned (.tuple #[.int .i64 (voteB V l).1.1, .int .i64 (voteB V l).1.2]) ∧ VoW w qb gb B X (voteB V l).2 V' Al cl Ac cc w' ∧ ChgV X wr w' := by
  have h5 : Calls Try.prog 17 #[.pointer (some ⟨X.vb, 0, none⟩), .slice A l.length c] wr (VotePost wr B X V l) := by
    cases l with
    | nil => exact vote_nil wr B X V h.vot A c
    | cons y ys => exact vote_any wr B X V h.vot A c _ hl (hx (by simp))
  exact h5.mono fun _ _ ⟨h1, h2, h3⟩ => ⟨h1, h.vote h2 h3, h3⟩
theorem refVote_round {X : VotX} {V : VotD} {Al : Option Addr} {cl : Nat} {Ac : Option Addr} {cc : Nat} {w1 : World} (hn : 1 ≤ V.n ∧ V.n ≤ 8) (ht : 0 ≤ V.tol ∧ V.tol ≤ 1073741824) (h : RVo w1 X V Al Ac) (hX : X.lb < w1.heap.size ∧ X.cb < w1.heap.size) (A : Option Addr) (c : Nat) (l : List RdD) (hl : RdsAt w1 w1.heap.size A l) :
    Calls Try.prog 34 #[.agg (rvA V Al cl Ac cc), .slice A l.length c] w1 fun e w' => ∃ Al' cl' Ac' cc', e = .returned (.tuple #[.agg (rvA (voteB V l).2 Al' cl' Ac' cc'), .int .i64 (voteB V l).1.1, .int .i64 (voteB V l).1.2]) ∧ RVo w' X (voteB V l).2 Al' Ac' ∧ Below w1.heap.size w1 w' :=
  (refVote_any w1 V Al cl Ac cc hn ht h.rv A c l hl).mono fun _ _ ⟨Al', cl', Ac', cc', h1, h2, h3, h4, h5⟩ =>
    ⟨Al', cl', Ac', cc', h1, ⟨h2, fun b off e => by
      rcases h4 with h4 | h4
      · rw [h4] at e; exact h.ol b off e
      · have := h4 b off e; omega, fun b off e => by
      rcases h5 with h5 | h5
      · rw [h5] at e; exact h.oc b off e
      · have := h5 b off e; omega⟩, h3⟩
set_option maxRecDepth 100000 in
set_option maxHeartbeats 16000000 in
theorem votes_any (w : World) (nn tt pp : Int) (_h1 : Wd nn) (_h2 : Wd tt) (_h3 : Wd pp) (A : Option Addr) (c : Nat) (l : List (List RdD)) (h : RdRowsAt w w.heap.size A l) (_hw : ∀ r ∈ l, ∀ y ∈ r, Wd y.val) :
    Calls Try.prog 11 #[.agg #[.int .i64 nn, .int .i64 tt, .int .i64 pp], .slice A l.length c] w fun e w' => e = .returned (.bool true) ∧ Below w.heap.size w w' := by
  clear _hw _h1 _h2 _h3
  obtain ⟨Pr, cr, hsl, hrd⟩ := h.sl
  have hll := hsl.1
  have HSL := Lib.hid hsl
  have HRD := Lib.hid hrd
  obtain ⟨qb, hqb⟩ : ∃ qb, w.heap.size = qb := ⟨_, rfl⟩
  have HQB := Lib.hid hqb
  obtain ⟨W0, hW0⟩ : ∃ W0, w.alloc (.cells #[.int .i64 nn, .int .i64 tt, .int .i64 pp] 34) = W0 := ⟨_, rfl⟩
  have HB0 : Hid (Below qb w W0) := Lib.hid (by rw [← hW0, ← hqb]; exact (Below.refl _ w).alloc (Nat.le_refl _) _)
  have HK0 : Hid (Bk W0 qb 34 #[.int .i64 nn, .int .i64 tt, .int .i64 pp]) := Lib.hid (by rw [← hW0, ← hqb]; exact Bk.new _ _ _)
  have HTR : Hid (∀ a b, Below qb w a → Below a.heap.size a b → Below qb w b) := Lib.hid fun a b h1 h2 => h1.trans (h2.mono (by rw [← hqb]; exact h1.size))
  have HFIN : Hid (∀ (e : Ending) (w' : World), e = .returned (.bool true) → Below qb w w' → e = .returned (.bool true) ∧ Below qb w w') := Lib.hid fun _ _ a b => ⟨a, b⟩
  have HNV := Lib.hid (newVoter_any W0 nn tt pp)
  have HRN := Lib.hid fun w1 => refNewVoter_any w1 nn tt pp
  obtain ⟨n, hn⟩ : ∃ n, l.length = n := ⟨_, rfl⟩
  have HN := Lib.hid hn
  rw [hn] at hll ⊢
  rw [hqb]
  obtain ⟨ok, hok⟩ : ∃ ok, newOk nn tt pp = ok := ⟨_, rfl⟩
  have HOK := Lib.hid hok
  obtain ⟨V0, hV0⟩ : ∃ V0, newV nn.toNat tt pp = V0 := ⟨_, rfl⟩
  have HV0 := Lib.hid hV0
  obtain ⟨Q1, hQ1⟩ : ∃ Q, NewPost W0 nn tt pp = Q := ⟨_, rfl⟩
  obtain ⟨Q2, hQ2⟩ : ∃ Q : World → Ending → World → Prop, ∀ w1, RNewPost w1 nn tt pp = Q w1 := ⟨_, fun _ => rfl⟩
  have HN1 : Hid (∀ e w1, Q1 e w1 → Below W0.heap.size W0 w1 ∧ (ok = false → e = .returned (.tuple #[.pointer none, .int .i64 4])) ∧ (ok = true → ∃ X, e = .returned (.tuple #[.pointer (some ⟨X.vb, 0, none⟩), .int .i64 0]) ∧ VotAt w1 W0.heap.size X V0)) := Lib.hid fun e w1 hp => by
    rw [← hQ1] at hp; obtain ⟨h1, h2, h3⟩ := hp
    rw [hok] at h2 h3; rw [hV0] at h3; exact ⟨h1, h2, h3⟩
  have HN2 : Hid (∀ w1 e w2, Q2 w1 e w2 → Below w1.heap.size w1 w2 ∧ (ok = false → e = .returned (.tuple #[.agg #[.int .i64 0, .int .i64 0, .slice none 0 0, .slice none 0 0], .int .i64 4])) ∧ (ok = true → ∃ Al cl Ac cc, e = .returned (.tuple #[.agg (rvA V0 Al cl Ac cc), .int .i64 0]) ∧ RVot w2 V0 Al Ac ∧ (∀ b off, Al = some ⟨b, off, none⟩ → w1.heap.size ≤ b) ∧ (∀ b off, Ac = some ⟨b, off, none⟩ → w1.heap.size ≤ b))) := Lib.hid fun w1 e w2 hp => by
    rw [← hQ2] at hp; obtain ⟨h1, h2, h3⟩ := hp
    rw [hok] at h2 h3; rw [hV0] at h3; exact ⟨h1, h2, h3⟩
  rw [hQ1] at HNV
  simp only [hQ2] at HRN
  have hsz0 : qb < W0.heap.size := HK0.out.lt
  have q0 : W0.cell? ⟨qb, 0, none⟩ = some (.int .i64 nn) := HK0.out.cell 0
  have q1 : W0.cell? ⟨qb, 1, none⟩ = some (.int .i64 tt) := HK0.out.cell 1
  have q2 : W0.cell? ⟨qb, 2, none⟩ = some (.int .i64 pp) := HK0.out.cell 2
  clear h hsl hrd hn hok hV0 hQ1 hQ2
  go_enter Try.func11, Try.ntmps11
  go_upto_region 1 with (fail)
  clear hqb hW0
  go_wp2_with fail
  refine HNV.out.mono ?_
  intro e w1 hp1
  obtain ⟨hb1, hno, hyes⟩ := HN1.out _ _ hp1
  have HB1 := Lib.hid (HTR.out _ _ HB0.out hb1)
  have HK1 := Lib.hid (HK0.out.below hb1 HK0.out.lt)
  have HNO := Lib.hid hno
  have HYES := Lib.hid hyes
  clear hp1 HNV HN1 q0 q1 q2 hno hyes hb1
  have q0 : w1.cell? ⟨qb, 0, none⟩ = some (.int .i64 nn) := HK1.out.cell 0
  have q1 : w1.cell? ⟨qb, 1, none⟩ = some (.int .i64 tt) := HK1.out.cell 1
  have q2 : w1.cell? ⟨qb, 2, none⟩ = some (.int .i64 pp) := HK1.out.cell 2
  cases ok with
  | false =>
    have he := HNO.out rfl
    subst he
    clear HNO HYES
    go_wp2_with fail
    refine (HRN.out _).mono ?_
    intro e w2 hp2
    obtain ⟨hb2, hno, _⟩ := HN2.out _ _ _ hp2
    have he := hno (by first | trivial | rfl)
    subst he
    have HB2 := Lib.hid (HTR.out _ _ HB1.out hb2)
    clear hp2 hb2 hno HN2 HRN
    have hsz2 : qb ≤ w2.heap.size := by have := HB2.out.size; have := HQB.out; omega
    go_upto_region 3 with (fail)
    obtain ⟨W3, hW3⟩ : ∃ W3, w2.alloc (.cells #[.int .i64 0, .int .i64 0, .slice none 0 0, .slice none 0 0] 63) = W3 := ⟨_, rfl⟩
    have HB3 : Hid (Below qb w W3) := Lib.hid (by rw [← hW3]; exact HB2.out.alloc hsz2 _)
    rw [hW3]
    obtain ⟨gb, hgb⟩ : ∃ gb, w2.heap.size = gb := ⟨_, rfl⟩
    rw [hgb]
    clear hW3 hgb hsz2 q0 q1 q2
    by_cases h1 : 100 < n
    · have h1i : (100 : Int) < (n : Int) := by omega
      go_wp2_with fail
      refine (awake_any _).mono ?_
      rintro e w9 ⟨rfl, hb9⟩
      go_wp2_with fail
      go_ret
      exact HFIN.out _ _ rfl (HTR.out _ _ HB3.out hb9)
    have h1i : ¬ (100 : Int) < (n : Int) := by omega
    go_wp2_with fail
    go_loopw [9] (fun i wr => i = .int .i64 0 ∧ Hid (Below qb w wr)) (fun _ _ => 0)
    case atStart => exact ⟨rfl, HB3⟩
    case round =>
      obtain ⟨rfl, hs⟩ := hrel
      by_cases h0 : 0 < n
      · have h0i : (0 : Int) < (n : Int) := by omega
        go_wp2_with fail
        refine (awake_any _).mono ?_
        rintro e w9 ⟨rfl, hb9⟩
        go_wp2_with fail
        go_ret
        exact HFIN.out _ _ rfl (HTR.out _ _ hs.out hb9)
      · have h0i : ¬ (0 : Int) < (n : Int) := by omega
        go_wp2_with fail
        refine (awake_any _).mono ?_
        rintro e w9 ⟨rfl, hb9⟩
        go_wp2_with fail
        go_ret
        exact HFIN.out _ _ rfl (HTR.out _ _ hs.out hb9)
  | true =>
    obtain ⟨X, he, hv⟩ := HYES.out rfl
    subst he
    have HV1 := Lib.hid hv
    clear HNO HYES hv
    go_wp2_with fail
    refine (HRN.out _).mono ?_
    intro e w2 hp2
    obtain ⟨hb2, _, hyes⟩ := HN2.out _ _ _ hp2
    obtain ⟨Al, cl, Ac, cc, he, hrv, hnl, hnc⟩ := hyes (by first | trivial | rfl)
    subst he
    have HB2 := Lib.hid (HTR.out _ _ HB1.out hb2)
    have HV2 := Lib.hid (HV1.out.later hb2)
    have HRV2 : Hid (RVo w2 X V0 Al Ac) := Lib.hid ⟨hrv, fun b off e => by have := hnl b off e; have := HV1.out.l.lt; have := HV1.out.c.lt; omega, fun b off e => by have := hnc b off e; have := HV1.out.l.lt; have := HV1.out.c.lt; omega⟩
    clear hp2 hb2 hyes HN2 HRN hrv hnl hnc
    have hsz2 : qb ≤ w2.heap.size := by have := HB2.out.size; have := HQB.out; omega
    have hrv0 : rvA V0 Al cl Ac cc = #[.int .i64 V0.tol, .int .i64 V0.pat, .slice Al V0.n cl, .slice Ac V0.n cc] := rfl
    rw [hrv0]
    go_upto_region 3 with (fail)
    obtain ⟨W3, hW3⟩ : ∃ W3, w2.alloc (.cells #[.int .i64 V0.tol, .int .i64 V0.pat, .slice Al V0.n cl, .slice Ac V0.n cc] 63) = W3 := ⟨_, rfl⟩
    obtain ⟨gb, hgb⟩ : ∃ gb, w2.heap.size = gb := ⟨_, rfl⟩
    have HVW : Hid (VoW w qb gb W0.heap.size X V0 V0 Al cl Ac cc W3) := Lib.hid (by
      have hb3 : Below w2.heap.size w2 W3 := by rw [← hW3]; exact (Below.refl _ _).alloc (Nat.le_refl _) _
      exact ⟨HTR.out _ _ HB2.out hb3, HV2.out.later hb3, by rw [← hW3, ← hgb]; exact Bk.new _ _ _, ⟨HRV2.out.rv.later hb3, HRV2.out.ol, HRV2.out.oc⟩, by omega, by omega⟩)
    rw [hW3, hgb]
    clear hW3 hgb hsz2 q0 q1 q2 hrv0 HV2 HRV2 HV1
    by_cases h1 : 100 < n
    · have h1i : (100 : Int) < (n : Int) := by omega
      go_wp2_with fail
      refine (awake_any _).mono ?_
      rintro e w9 ⟨rfl, hb9⟩
      go_wp2_with fail
      go_ret
      exact HFIN.out _ _ rfl (HTR.out _ _ HVW.out.bel hb9)
    have h1i : ¬ (100 : Int) < (n : Int) := by omega
    go_wp2_with fail
    go_loopw [9] (fun i wr => ∃ k : Nat, k ≤ n ∧ i = .int .i64 k ∧ Hid (∃ V Al cl Ac cc, VoW w qb gb W0.heap.size X V V Al cl Ac cc wr)) (fun i _ => n - (intOf i).toNat)
    case atStart => exact ⟨0, Nat.zero_le _, rfl, Lib.hid ⟨V0, Al, cl, Ac, cc, HVW.out⟩⟩
    case round =>
      clear HVW
      obtain ⟨k, hk, rfl, hs0⟩ := hrel
      obtain ⟨V, Al, cl, Ac, cc, hs⟩ := hs0.out
      have HS := Lib.hid hs
      clear hs hs0
      by_cases hlt : k < n
      · have hki : (k : Int) < (n : Int) := by omega
        have h0k : (0 : Int) ≤ (k : Int) := by omega
        have hlt' : k < l.length := by rw [HN.out]; exact hlt
        obtain ⟨b, off, rfl, _, d0⟩ := Sl.at1 (Sl.below HSL.out (by rw [HQB.out]; exact HS.out.bel)) (i := k) hlt'
        have HLV := Lib.hid (vote_round HS.out (Pr k) (cr k) (l.getD k []) (Sl.later (HRD.out k hlt') (by rw [HQB.out]; exact HS.out.bel)) (fun h9 => by
          have h8 := HRD.out k hlt'
          rw [HQB.out] at h8
          have h7 := HS.out.vot.lo
          have h6 := HS.out.lo
          exact RdsAt.off h8 h9 (by omega) (by omega)))
        have HRO : Hid (∀ w1, Below qb w w1 → w1.cell? ⟨b, off + k, none⟩ = some (.slice (Pr k) (l.getD k []).length (cr k))) := Lib.hid fun w1 h1 => by
          obtain ⟨b', off', e, _, d1⟩ := Sl.at1 (Sl.below HSL.out (by rw [HQB.out]; exact h1)) (i := k) hlt'
          cases e
          exact d1
        have HRL : Hid (∀ w1, Below qb w w1 → RdsAt w1 w1.heap.size (Pr k) (l.getD k [])) := Lib.hid fun w1 h1 => Sl.later (HRD.out k hlt') (by rw [HQB.out]; exact h1)
        obtain ⟨L, hL⟩ : ∃ L, l.getD k [] = L := ⟨_, rfl⟩
        try dsimp only at d0
        rw [hL] at d0 HLV HRO HRL
        obtain ⟨lr, hlr⟩ : ∃ lr, L.length = lr := ⟨_, rfl⟩
        have HR2 : Hid (∀ w1, Below qb w w1 → RVo w1 X V Al Ac → (X.lb < w1.heap.size ∧ X.cb < w1.heap.size) → Calls Try.prog 34 #[.agg (rvA V Al cl Ac cc), .slice (Pr k) lr (cr k)] w1 fun e w' => ∃ Al' cl' Ac' cc', e = .returned (.tuple #[.agg (rvA (voteB V L).2 Al' cl' Ac' cc'), .int .i64 (voteB V L).1.1, .int .i64 (voteB V L).1.2]) ∧ RVo w' X (voteB V L).2 Al' Ac' ∧ Below w1.heap.size w1 w') := Lib.hid fun w1 h1 h2 h3 => by
          have h9 := refVote_round (cl := cl) (cc := cc) HS.out.vot.n HS.out.vot.tol h2 h3 (Pr k) (cr k) L (HRL.out w1 h1)
          rw [hlr] at h9; exact h9
        rw [hlr] at d0 HLV HRO
        obtain ⟨⟨⟨x, er⟩, U⟩, hU⟩ : ∃ R, voteB V L = R := ⟨_, rfl⟩
        rw [hU] at HLV HR2
        dsimp only at HLV HR2
        clear hU hlr hL HRL
        by_cases h20 : 20 < lr
        · have h20i : (20 : Int) < (lr : Int) := by omega
          go_wp2_with fail
          refine (awake_any _).mono ?_
          rintro e w9 ⟨rfl, hb9⟩
          go_wp2_with fail
          go_ret
          exact HFIN.out _ _ rfl (HTR.out _ _ HS.out.bel hb9)
        have h20i : ¬ (20 : Int) < (lr : Int) := by omega
        go_wp2_with fail
        refine HLV.out.mono ?_
        rintro e w4x ⟨rfl, hvw, _⟩
        have HS4 := Lib.hid hvw
        have HRW : Hid (∀ w1, Below w4x.heap.size w4x w1 → w1.cell? ⟨b, off + k, none⟩ = some (.slice (Pr k) lr (cr k))) := Lib.hid fun w1 h1 => HRO.out w1 (HTR.out _ _ HS4.out.bel h1)
        have HBX : Hid (∀ w1, Below w4x.heap.size w4x w1 → Bk w1 gb 63 (rvA V Al cl Ac cc)) := Lib.hid fun w1 h1 => HS4.out.box.below h1 HS4.out.box.lt
        have HVT : Hid (∀ w1, Below w4x.heap.size w4x w1 → Calls Try.prog 34 #[.agg (rvA V Al cl Ac cc), .slice (Pr k) lr (cr k)] w1 fun e w' => ∃ Al' cl' Ac' cc', e = .returned (.tuple #[.agg (rvA U Al' cl' Ac' cc'), .int .i64 x, .int .i64 er]) ∧ RVo w' X U Al' Ac' ∧ Below w1.heap.size w1 w') := Lib.hid fun w1 h1 => by
          have h2 := HS4.out.later h1
          exact HR2.out w1 h2.bel h2.rv ⟨h2.vot.l.lt, h2.vot.c.lt⟩
        clear hvw d0 HLV HRO HR2
        obtain ⟨fs, hu⟩ := und_votR
        go_wp2_with fail
        refine wp_region_steps (by kernel_rfl) (by kernel_rfl) (fun w1 => Below w4x.heap.size w4x w1) (VsE)
          (fun ix u d w1 => (match ix with
            | 0 => u = .agg (rvA V Al cl Ac cc)
            | 1 => u = .slice (some ⟨b, off, none⟩) n c
            | 2 => u = .int .i64 k
            | 3 => u = .pointer (some ⟨b, off + k, none⟩)
            | 4 => u = .slice (Pr k) lr (cr k)
            | 5 => True
            | 6 => True
            | 7 => True
            | 8 => u = .int .i64 x
            | 9 => u = .int .i64 er
            | 10 => True
            | 11 => True
            | 12 => u = .int .i64 x
            | _ => u = .int .i64 er) ∧ VsR X U x er w4x.heap.size ix u d w1) (Below.refl _ _).drew (fun i j hij _ u d w1 w2 ⟨hr1, hr2⟩ _ he => ⟨hr1, hr2.keep hij he⟩) ?_ ?_
        · refine ⟨?_, ?_, ?_, ?_, ?_, ?_, ?_, ?_, ?_, ?_, ?_, ?_, ?_, ?_, trivial⟩
          · intro a w1 vs K HJ HK HD HN kk
            have e7 := HK 7 (by decide)
            exact wpo_loadS 63 (.tmp 7) rfl gb 0 (by simpa [Act.eval] using e7) (rvA V Al cl Ac cc) _ (fun j u hj => by rw [Nat.zero_add]; exact ((HBX.out w1 HJ).cell j).trans hj) hu rfl info_votR (kk _ _ (by simp) HJ (VsE.same _ (by omega)) ⟨rfl, ⟨fun e => by omega, fun e => by omega, fun e => by omega, fun e => by omega⟩⟩)
          · intro a w1 vs K HJ HK HD HN kk
            have e1 := HK 1 (by decide)
            go_simp; exact kk _ _ (by simp) HJ (VsE.same _ (by omega)) ⟨rfl, ⟨fun e => by omega, fun e => by omega, fun e => by omega, fun e => by omega⟩⟩
          · intro a w1 vs K HJ HK HD HN kk
            have e9 := HK 9 (by decide)
            go_simp; exact kk _ _ (by simp) HJ (VsE.same _ (by omega)) ⟨rfl, ⟨fun e => by omega, fun e => by omega, fun e => by omega, fun e => by omega⟩⟩
          · intro a w1 vs K HJ HK HD HN kk
            have e77 := (HD 1 _ 77 rfl rfl rfl).1.trans (HD 1 _ 77 rfl rfl rfl).2.1
            have e78 := (HD 2 _ 78 rfl rfl rfl).1.trans (HD 2 _ 78 rfl rfl rfl).2.1
            go_simp; exact kk _ _ (by simp) HJ (VsE.same _ (by omega)) ⟨rfl, ⟨fun e => by omega, fun e => by omega, fun e => by omega, fun e => by omega⟩⟩
          · intro a w1 vs K HJ HK HD HN kk
            have e79 := (HD 3 _ 79 rfl rfl rfl).1.trans (HD 3 _ 79 rfl rfl rfl).2.1
            have ca := HRW.out w1 HJ
            go_simp; exact kk _ _ (by simp) HJ (VsE.same _ (by omega)) ⟨rfl, ⟨fun e => by omega, fun e => by omega, fun e => by omega, fun e => by omega⟩⟩
          · intro a w1 vs K HJ HK HD HN kk
            have e76 := (HD 0 _ 76 rfl rfl rfl).1.trans (HD 0 _ 76 rfl rfl rfl).2.1
            have e80 := (HD 4 _ 80 rfl rfl rfl).1.trans (HD 4 _ 80 rfl rfl rfl).2.1
            exact wpo_call 34 _ _ rfl #[.agg (rvA V Al cl Ac cc), .slice (Pr k) lr (cr k)] (by simp [Act.eval, e76, e80]) (fun args w => by kernel_rfl)
              ((HVT.out w1 HJ).mono fun e w' ⟨Al', cl', Ac', cc', he, hr, hb⟩ => ⟨_, he, kk _ _ (by simp) (HJ.trans (hb.mono HJ.size)) (VsE.below (by omega) hb) ⟨trivial, ⟨fun _ => ⟨Al', cl', Ac', cc', rfl, hr⟩, fun e => by omega, fun e => by omega, fun e => by omega⟩⟩⟩)
          · intro a w1 vs K HJ HK HD HN kk
            obtain ⟨q5, r5⟩ := HD 5 _ 81 rfl rfl rfl
            obtain ⟨Al', cl', Ac', cc', y1, y2⟩ := r5.2.1 (Or.inl rfl)
            exact wpo_move (.tmp 81) _ (Or.inl rfl) (by simpa [Act.eval] using q5.trans y1) (kk _ _ (by simp) HJ (VsE.same _ (by omega)) ⟨trivial, ⟨fun _ => ⟨Al', cl', Ac', cc', rfl, y2⟩, fun e => by omega, fun e => by omega, fun e => by omega⟩⟩)
          · intro a w1 vs K HJ HK HD HN kk
            obtain ⟨q6, r6⟩ := HD 6 _ 75 rfl rfl rfl
            obtain ⟨Al', cl', Ac', cc', y1, y2⟩ := r6.2.1 (Or.inr rfl)
            have e75 := q6.trans y1
            clear y1 q6 r6
            go_simp; exact kk _ _ (by simp) HJ (VsE.same _ (by omega)) ⟨trivial, ⟨fun e => by omega, fun _ => ⟨Al', cl', Ac', cc', rfl, y2⟩, fun e => by omega, fun e => by omega⟩⟩
          · intro a w1 vs K HJ HK HD HN kk
            obtain ⟨q6, r6⟩ := HD 6 _ 75 rfl rfl rfl
            obtain ⟨Al', cl', Ac', cc', y1, y2⟩ := r6.2.1 (Or.inr rfl)
            have e75 := q6.trans y1
            clear y1 y2 q6 r6
            go_simp; exact kk _ _ (by simp) HJ (VsE.same _ (by omega)) ⟨rfl, ⟨fun e => by omega, fun e => by omega, fun e => by omega, fun e => by omega⟩⟩
          · intro a w1 vs K HJ HK HD HN kk
            obtain ⟨q6, r6⟩ := HD 6 _ 75 rfl rfl rfl
            obtain ⟨Al', cl', Ac', cc', y1, y2⟩ := r6.2.1 (Or.inr rfl)
            have e75 := q6.trans y1
            clear y1 y2 q6 r6
            go_simp; exact kk _ _ (by simp) HJ (VsE.same _ (by omega)) ⟨rfl, ⟨fun e => by omega, fun e => by omega, fun e => by omega, fun e => by omega⟩⟩
          · intro a w1 vs K HJ HK HD HN kk
            go_simp; exact kk _ _ (by simp) (HJ.alloc HJ.size _) (VsE.below (by omega) ((Below.refl _ _).alloc (Nat.le_refl _) _)) ⟨trivial, ⟨fun e => by omega, fun e => by omega, fun _ => ⟨_, rfl, HJ.size, _, Bk.new _ _ _, rfl⟩, fun e => by omega⟩⟩
          · intro a w1 vs K HJ HK HD HN kk
            obtain ⟨q10, r10⟩ := HD 10 _ 12 rfl rfl rfl
            obtain ⟨nb, y1, y2, cs0, y3, y4⟩ := r10.2.2.2.1 rfl
            obtain ⟨q7, r7⟩ := HD 7 _ 82 rfl rfl rfl
            obtain ⟨Al', cl', Ac', cc', z1, z2⟩ := r7.2.2.1 rfl
            exact wpo_storeS 63 (.tmp 12) (.tmp 82) rfl rfl nb 0 (by simpa [Act.eval] using q10.trans y1) (rvA U Al' cl' Ac' cc') (by simpa [Act.eval] using q7.trans z1) 63 cs0 y3 (by rw [y4]; show 0 + 4 ≤ 4; omega) (rvA_one _ _ _ _ _) info_votR fun w2 hk2 ho2 => by
              have hk3 : Bk w2 nb 63 (rvA U Al' cl' Ac' cc') := by rw [splA_all4 _ _ (by rw [y4]; rfl)] at hk2; exact hk2
              exact kk undef _ (by simp) (HJ.trans (ho2.below y2)) ⟨fun e => absurd rfl e, fun _ => ⟨nb, cs0, y3, ho2, _, hk3, rfl⟩⟩ ⟨trivial, ⟨fun e => by omega, fun e => by omega, fun e => by omega, fun _ => ⟨Al', cl', Ac', cc', nb, y1, y2, hk3, ⟨z2.rv.only y3 ho2, z2.ol, z2.oc⟩⟩⟩⟩
          · intro a w1 vs K HJ HK HD HN kk
            have e83 := (HD 8 _ 83 rfl rfl rfl).1.trans (HD 8 _ 83 rfl rfl rfl).2.1
            go_simp; exact kk _ _ (by simp) HJ (VsE.same _ (by omega)) ⟨rfl, ⟨fun e => by omega, fun e => by omega, fun e => by omega, fun e => by omega⟩⟩
          · intro a w1 vs K HJ HK HD HN kk
            have e84 := (HD 9 _ 84 rfl rfl rfl).1.trans (HD 9 _ 84 rfl rfl rfl).2.1
            go_simp; exact kk _ _ (by simp) HJ (VsE.same _ (by omega)) ⟨rfl, ⟨fun e => by omega, fun e => by omega, fun e => by omega, fun e => by omega⟩⟩
        · intro vs w5 hw5 hrr
          obtain ⟨Al', cl', Ac', cc', nb, z1, z2, z3, z4⟩ := (hrr 11 _ rfl).2.2.2.2 rfl
          have z1' : vs 10 = .pointer (some ⟨nb, 0, none⟩) := z1
          have e12 : vs 12 = .int .i64 x := (hrr 12 _ rfl).1
          have e13 : vs 13 = .int .i64 er := (hrr 13 _ rfl).1
          have HS5 := Lib.hid (HS4.out.later hw5)
          have HR5 := Lib.hid z4
          have n0 : w5.cell? ⟨nb, 0, none⟩ = some (.int .i64 U.tol) := z3.cell 0
          have n1 : w5.cell? ⟨nb, 1, none⟩ = some (.int .i64 U.pat) := z3.cell 1
          have n2 : w5.cell? ⟨nb, 2, none⟩ = some (.slice Al' U.n cl') := z3.cell 2
          have n3 : w5.cell? ⟨nb, 3, none⟩ = some (.slice Ac' U.n cc') := z3.cell 3
          have g0 : w5.cell? ⟨gb, 0, none⟩ = some (.int .i64 V.tol) := HS5.out.box.cell 0
          have g1 : w5.cell? ⟨gb, 1, none⟩ = some (.int .i64 V.pat) := HS5.out.box.cell 1
          have g2 : w5.cell? ⟨gb, 2, none⟩ = some (.slice Al V.n cl) := HS5.out.box.cell 2
          have g3 : w5.cell? ⟨gb, 3, none⟩ = some (.slice Ac V.n cc) := HS5.out.box.cell 3
          have gf := HS5.out.box.free
          clear hrr z1 z2 z3 z4 hw5 HVT HBX HRW
          simp only [putAll, Act.put, List.setIfInBounds_toArray, List.set_cons_zero, List.set_cons_succ]
          rw [z1', e12, e13]
          clear z1' e12 e13
          go_upto_region 15 with (fail)
          have HS6 := Lib.hid (HS5.out.store (cl' := cl') (cc' := cc') HR5.out (show #[.int .i64 U.tol, .int .i64 U.pat, .slice Al' U.n cl', .slice Ac' U.n cc'] = rvA U Al' cl' Ac' cc' from rfl))
          obtain ⟨w6, hw6⟩ : ∃ w6, (((w5.setCell ⟨gb, 0, none⟩ (.int .i64 U.tol)).setCell ⟨gb, 1, none⟩ (.int .i64 U.pat)).setCell ⟨gb, 2, none⟩ (.slice Al' U.n cl')).setCell ⟨gb, 3, none⟩ (.slice Ac' U.n cc') = w6 := ⟨_, rfl⟩
          rw [hw6] at HS6 ⊢
          clear hw6 n0 n1 n2 n3 g0 g1 g2 g3 gf
          have g0 : w6.cell? ⟨gb, 0, none⟩ = some (.int .i64 U.tol) := HS6.out.box.cell 0
          have g1 : w6.cell? ⟨gb, 1, none⟩ = some (.int .i64 U.pat) := HS6.out.box.cell 1
          have g2 : w6.cell? ⟨gb, 2, none⟩ = some (.slice Al' U.n cl') := HS6.out.box.cell 2
          have g3 : w6.cell? ⟨gb, 3, none⟩ = some (.slice Ac' U.n cc') := HS6.out.box.cell 3
          have HAK := Lib.hid (alike_any w6 _ X U HS6.out.vot Al' cl' Ac' cc' HS6.out.rv.rv)
          rw [show rvA U Al' cl' Ac' cc' = #[.int .i64 U.tol, .int .i64 U.pat, .slice Al' U.n cl', .slice Ac' U.n cc'] from rfl] at HAK
          go_wp2_with fail
          refine HAK.out.mono ?_
          rintro e w7 ⟨rfl, hb7⟩
          have HS7 := Lib.hid (HS6.out.later hb7)
          clear hb7 g0 g1 g2 g3
          go_wp2_with fail
          go_roundw
          case rel => exact ⟨k + 1, by omega, by go_num, Lib.hid ⟨U, Al', cl', Ac', cc', HS7.out⟩⟩
          case measure => simp [intOf]; omega
      · have hki : ¬ (k : Int) < (n : Int) := by omega
        go_wp2_with fail
        refine (awake_any _).mono ?_
        rintro e w9 ⟨rfl, hb9⟩
        go_wp2_with fail
        go_ret
        exact HFIN.out _ _ rfl (HTR.out _ _ HS.out.bel hb9)
end Go.Proofs.Ytnmccbjdfdbgpaa
