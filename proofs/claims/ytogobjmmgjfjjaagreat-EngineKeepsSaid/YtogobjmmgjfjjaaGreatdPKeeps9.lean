/- What is proved: the texts U1 U2 U3 U4, one behind the other; each says at its head what it proves, and under which conditions. -/
import Derived.Deep.RegionHeld3
import Derived.Test.YtogobjmmgjfjjaaGreatdPKeeps8
/- What is proved: contracts of Carried, Lost, Vented of engine.System. Conditions: the system lies in memory. -/
namespace Go.Proofs.YtogobjmmgjfjjaaGreat
open Go.RowKit

/-- A list of numbers in new memory is handed back. -/
def NewInts (w : World) (n : Nat) (F : Nat → Int) (e : Ending) (w' : World) : Prop := ∃ A c, e = .returned (.slice A n c) ∧ Cl w' w.heap.size 3 1 A n (fun i _ => .int .i64 (F i)) ∧ Below w.heap.size w w'
theorem SysAt.carr {w : World} {X : SX} {S : Sys} (h : SysAt w X S) : Sl w w.heap.size 1 (some ⟨X.cb, 0, none⟩) S.p.lines.length fun i _ => .int .i64 (S.carried i) :=
  ⟨by have := h.lens; omega, fun _ => ⟨X.cb, 0, rfl, h.c.lt, fun i hi j hj => by
    obtain rfl : j = 0 := by omega
    rw [show 0 + i * 1 + 0 = i from by omega, h.c.cell]; exact carrA_get _ _ _ hi⟩⟩
set_option maxRecDepth 100000 in
set_option maxHeartbeats 1000000 in
theorem carried_any (w : World) (X : SX) (S : Sys) (h : SysAt w X S) :
    Calls Tryz.prog 32 #[.pointer (some ⟨X.sb, 0, none⟩)] w (NewInts w S.p.lines.length S.carried) := by
  have HI := Lib.hid (is_any w X S h)
  have c41 := h.cells.c41
  have HCL := Lib.hid (cloneInt w (some ⟨X.cb, 0, none⟩) S.p.lines.length S.p.lines.length (fun i _ => .int .i64 (S.carried i)) h.carr (fun _ _ => rfl) (by have := h.lens; omega))
  clear h
  go_enter Tryz.func32, Tryz.ntmps32
  go_wp2_with fail
  refine HI.out.mono ?_
  rintro e w' ⟨rfl, rfl⟩
  go_wp2_with fail
  refine HCL.out.mono ?_
  rintro e w' ⟨A', c', rfl, hc, hb⟩
  have HC := Lib.hid hc
  have HB := Lib.hid hb
  clear hc hb
  go_wp2_with fail
  go_ret
  exact ⟨A', c', rfl, HC.out, HB.out⟩
theorem World.ownsRow.of_below {B : Nat} {e : TypeId} {size : Nat} {v : Value} {n : Nat} {xs : List Value} {w w' : World} (h : w.ownsRow B e size v n xs) (hb : Below w.heap.size w w') : w'.ownsRow B e size v n xs :=
  h.kept (row := none) ⟨hb.os, hb.tape, hb.output, hb.size, fun k hk _ => hb.block k hk⟩ (by cases hv : v.ownBlock <;> simp)
theorem rowsL_succ1 (k : Nat) (F : Nat → Nat → Value) : rowsL (k + 1) 1 F = rowsL k 1 F ++ [F k 0] := by
  simp [rowsL, List.range_succ, Nat.mod_one]
theorem info_intE : (Tryz.prog.info? 3).map (fun i => (i.zero, i.size, i.bytes)) = some (some (.int .i64 0), 1, 8) := by kernel_rfl
set_option maxRecDepth 100000 in
set_option maxHeartbeats 2000000 in
theorem each_any (w : World) (X : SX) (S : Sys) (h : SysAt w X S) (g : Nat) (F : Nat → Int) (eg : ∀ args w, (callFunc g args).run Tryz.prog w = .ok (.enter g args) w)
    (hg : ∀ w1 i, i < S.p.tanks.length → Calls Tryz.prog g #[.agg #[.int .i64 (S.tank i).content, .int .i64 (S.tank i).gas, .int .i64 (S.tank i).leak, .int .i64 (S.tank i).lost, .int .i64 (S.tank i).vented]] w1 fun e w' => e = .returned (.int .i64 (F i)) ∧ Below w1.heap.size w1 w') :
    Calls Tryz.prog 92 #[.pointer (some ⟨X.sb, 0, none⟩), .func (.func g) #[] #[]] w (NewInts w S.p.tanks.length F) := by
  have HI := Lib.hid (is_any w X S h)
  have c40 := h.cells.c40
  have hl := h.lens
  have H0 := Lib.hid h
  have HG := Lib.hid hg
  obtain ⟨i0, hi0, hz0, hz1, hz2⟩ := info_parts info_intE
  obtain ⟨n, hn⟩ : ∃ n, S.p.tanks.length = n := ⟨_, rfl⟩
  rw [hn] at c40 hl
  have HN := Lib.hid hn
  have hn16 : n ≤ 16 := hl.2.1
  clear h hg hn hl
  go_enter Tryz.func92, Tryz.ntmps92
  go_wp2_with fail
  refine HI.out.mono ?_
  rintro e w' ⟨rfl, rfl⟩
  go_wp2_with fail
  go_loopw [5, 15] (fun v i wr => ∃ k : Nat, k ≤ n ∧ i = .int .i64 k ∧ wr.ownsRow w.heap.size 3 1 v k (rowsL k 1 fun i _ => .int .i64 (F i)) ∧ Below w.heap.size w wr) (fun _ i _ => n - (intOf i).toNat)
  case atStart => exact ⟨0, Nat.zero_le _, rfl, World.ownsRow_nil _ _ _ _, Below.refl _ _⟩
  case round =>
    obtain ⟨k, hk, rfl, hown, hb⟩ := hrel
    have hsz := hb.size
    by_cases hlt : k < n
    · have hki : (k : Int) < (n : Int) := by omega
      have hS := H0.out.below hb
      obtain ⟨t0, t1, t2, t3, t4⟩ := hS.tankCells k (by rw [HN.out]; exact hlt)
      have HCg := Lib.hid fun w1 => HG.out w1 k (by rw [HN.out]; exact hlt)
      clear hS
      go_wp2_with fail
      refine (HCg.out _).mono ?_
      rintro e w1 ⟨rfl, hb1⟩
      have hb2 : Below w.heap.size w w1 := (hb.alloc hsz _).trans (hb1.mono (by simp; omega))
      have hs2 := hb2.size
      have hw1s : wr.heap.size + 1 ≤ w1.heap.size := by have := hb1.size; simpa using this
      have hown1 := World.ownsRow.of_below (hown.alloc _) hb1
      go_wp2_with (first | (at_builtin; refine wpList_append_own _ rfl _ _ 50 rfl w.heap.size 3 i0 (.int .i64 0) 1 8 Tryz.underlying50 hi0 hz0 hz1 hz2 rfl (by decide) _ _ _ rfl (hown1.alloc _) ⟨w1.heap.size, 0, none⟩ 1 1 [.int .i64 (F k)] rfl rfl ?c1 ?c2 ?c3 ?c4 ?c5 ?_))
      case c1 => exact cell_one_new _ _ _
      case c2 => intro u hu; simp at hu; subst hu; rfl
      case c3 => unfold maxLen; omega
      case c4 => omega
      case c5 => simp; omega
      intro v' w2 hown' hgrow _
      have hb3 : Below w.heap.size w w2 := (hb2.alloc hs2 _).grown hgrow (by simp; omega) (fun g hg => (hown1.lt g hg).1)
      clear hgrow hown hown1
      go_wp2_with fail
      go_roundw
      case rel => exact ⟨k + 1, by omega, by go_num, by rw [rowsL_succ1]; exact hown', hb3⟩
      case measure => simp [intOf]; omega
    · obtain rfl : k = n := by omega
      obtain ⟨A, c, rfl, hc⟩ := Cl.of_own (by omega) hown
      have HC := Lib.hid hc
      have HB := Lib.hid hb
      clear hc hb hown
      go_wp2_with fail
      go_ret
      have hn := HN.out
      unfold NewInts
      rw [hn]
      exact ⟨A, c, rfl, HC.out, HB.out⟩
set_option maxRecDepth 100000 in
set_option maxHeartbeats 2000000 in
theorem lost_any (w : World) (X : SX) (S : Sys) (h : SysAt w X S) :
    Calls Tryz.prog 33 #[.pointer (some ⟨X.sb, 0, none⟩)] w (NewInts w S.p.tanks.length fun i => (S.tank i).lost) := by
  have HE := Lib.hid (each_any w X S h 93 (fun i => (S.tank i).lost) (fun args w => by kernel_rfl) fun w1 i hi => by
    go_enter Tryz.func93, Tryz.ntmps93
    go_wp2_with fail
    go_ret
    exact ⟨rfl, by repeat first | exact Below.refl _ _ | refine Below.alloc ?_ (by simp) _⟩)
  clear h
  go_enter Tryz.func33, Tryz.ntmps33
  go_wp2_with fail
  refine HE.out.mono ?_
  rintro e w' ⟨A', c', rfl, hc, hb⟩
  have HC := Lib.hid hc
  have HB := Lib.hid hb
  clear hc hb
  go_wp2_with fail
  go_ret
  exact ⟨A', c', rfl, HC.out, HB.out⟩
set_option maxRecDepth 100000 in
set_option maxHeartbeats 2000000 in
theorem vented_any (w : World) (X : SX) (S : Sys) (h : SysAt w X S) :
    Calls Tryz.prog 34 #[.pointer (some ⟨X.sb, 0, none⟩)] w (NewInts w S.p.tanks.length fun i => (S.tank i).vented) := by
  have HE := Lib.hid (each_any w X S h 94 (fun i => (S.tank i).vented) (fun args w => by kernel_rfl) fun w1 i hi => by
    go_enter Tryz.func94, Tryz.ntmps94
    go_wp2_with fail
    go_ret
    exact ⟨rfl, by repeat first | exact Below.refl _ _ | refine Below.alloc ?_ (by simp) _⟩)
  clear h
  go_enter Tryz.func34, Tryz.ntmps34
  go_wp2_with fail
  refine HE.out.mono ?_
  rintro e w' ⟨A', c', rfl, hc, hb⟩
  have HC := Lib.hid hc
  have HB := Lib.hid hb
  clear hc hb
  go_wp2_with fail
  go_ret
  exact ⟨A', c', rfl, HC.out, HB.out⟩
end Go.Proofs.YtogobjmmgjfjjaaGreat
/- What is proved: a contract of ullagelaw07.due. Conditions: the plant and the state lie in memory; the state is a system's. -/
namespace Go.Proofs.YtogobjmmgjfjjaaGreat
open Go.RowKit
theorem RefOne.back [Exc] {w : World} {S : Sys} {e : Ending} {w' : World} (h : RefOne w S e w') : ∃ R', e = .returned (.agg (SysA R' S)) ∧ RefAt w' w'.heap.size R' S ∧ Below w.heap.size w w' := h
end Go.Proofs.YtogobjmmgjfjjaaGreat
/- What is proved: a contract of ullagelaw07.alike: it answers true. Conditions: the system and the state lie in memory and are of the same plain system. -/
namespace Go.Proofs.YtogobjmmgjfjjaaGreat
open Go.RowKit
end Go.Proofs.YtogobjmmgjfjjaaGreat
/- What is proved: how a system and the document's state lie side by side in a law. Conditions: those that each lemma states. -/
namespace Go.Proofs.YtogobjmmgjfjjaaGreat
open Go.RowKit

/-- The blocks of a system in which no list of a state lies. -/
@[reducible] def SX.exc (X : SX) : Exc := ⟨fun b => (b = X.sb ∨ b = X.tb ∨ b = X.cb) ∧ b < X.hi, X.hi, fun _ h => h.2⟩
theorem tickB_p (S : Sys) : (tickB S).p = S.p := by unfold tickB; rw [tanksK_p, linesK_p]; rfl
theorem doesB_p (S : Sys) (what a b c : Int) : (doesB S what a b c).2.p = S.p := by
  unfold doesB
  split
  · unfold putB; split
    · split <;> rfl
    · rfl
  · split
    · unfold orderB; split
      · split <;> rfl
      · rfl
    · split
      · unfold stickB; split <;> rfl
      · split
        · unfold leakB; split
          · split <;> rfl
          · rfl
        · exact tickB_p S
/-- A system S, and a state of T in the box sx. -/
structure Side (W : World) (X : SX) (sx : Nat) (p : PlantD) (wr : World) (S T : Sys) : Prop where
  sys : SysAt wr X S
  st : ∃ R, Bk wr sx 53 (SysA R T) ∧ @RefB X.exc wr sx (sx + 1) R T
  below : Below W.heap.size W wr
  hp : S.p = p
  tp : T.p = p
  lo : W.heap.size ≤ X.lo
  hi : X.hi ≤ sx
section
variable {W wr w1 wf : World} {X : SX} {sx : Nat} {p : PlantD} {S T S' T' : Sys}
theorem Side.later (h : Side W X sx p wr S T) (hb : Below wr.heap.size wr w1) : Side W X sx p w1 S T := by
  obtain ⟨R, h1, h2⟩ := h.st
  letI : Exc := X.exc
  exact ⟨h.sys.below hb, ⟨R, h1.below hb h1.lt, RefB.below h2 hb⟩, h.below.trans (hb.mono h.below.size), h.hp, h.tp, h.lo, h.hi⟩
theorem Side.wlt (h : Side W X sx p wr S T) : W.heap.size ≤ sx := by
  have := h.sys.lo; have := h.sys.hi; have := h.lo; have := h.hi; omega
theorem Side.does (h : Side W X sx p wr S T) (hs : SysAt w1 X S') (hc : Chg X wr w1) (hp : S'.p = S.p) : Side W X sx p w1 S' T := by
  letI : Exc := X.exc
  obtain ⟨R, h1, h2⟩ := h.st
  have l := h.sys.lo; have u := h.sys.hi; have l2 := h.lo; have u2 := h.hi; have l1 := h1.lt; have hsz := h.below.size; have hcs := hc.size
  refine ⟨hs, ⟨R, (hc.block sx l1 (by omega) (by omega) (by omega)).trans h1, h2.1, fun k hk => ?_⟩, h.below.trans (hc.below hsz (by omega) (by omega) (by omega)), hp.trans h.hp, h.tp, h.lo, h.hi⟩
  have hk' : @SlO X.exc _ _ _ _ _ := h2.2 k hk
  refine ⟨⟨hk'.sl.1, fun hn => ?_⟩, Nat.le_trans hk'.top hcs, hk'.out⟩
  obtain ⟨b, off, e, hD, hcell⟩ := hk'.sl.2 hn
  have hne := hk'.out b off hn e
  refine ⟨b, off, e, ⟨hD.1, by omega⟩, fun i hi j hj => ?_⟩
  have hb3 : b ≠ X.sb ∧ b ≠ X.tb ∧ b ≠ X.cb := by
    refine ⟨?_, ?_, ?_⟩ <;> (rintro rfl; exact hne ⟨by simp, by omega⟩)
  exact (World.cell?_of_block (hc.block b hD.2 hb3.1 hb3.2.1 hb3.2.2)).trans (hcell i hi j hj)
theorem RefAt.box {R R0 : RX} {nb a b c : Nat} (hr : @RefAt X.exc w1 w1.heap.size R T) (ht : X.hi ≤ nb + 1) (hb : Bk w1 nb 53 (refA R0 a b c)) (ho : Only nb w1 wf) : @RefB X.exc wf nb (nb + 1) R T := by
  letI : Exc := X.exc
  refine RefB.only (RefAt.refB (lo := nb) (q := 1) hr ht fun b' g1 g2 j u hu => ?_) ho (by omega) (by omega)
  obtain rfl : b' = nb := by omega
  rw [hb.cell] at hu; exact refA_slices _ _ _ _ _ _ hu
theorem Side.store {R' : RX} (h : Side W X sx p wr S T) (hb : Below wr.heap.size wr w1) (hr : @RefAt X.exc w1 w1.heap.size R' T') (hp : T'.p = T.p) (hk : Bk wf sx 53 (SysA R' T')) (ho : Only sx w1 wf) : Side W X sx p wf S T' := by
  letI : Exc := X.exc
  have h1 := h.later hb
  obtain ⟨R, g1, g2⟩ := h1.st
  have u2 := h.hi; have hw := h.wlt
  refine ⟨h1.sys.keep (fun b _ hh => ho.block b (by omega)) (by rw [ho.size]; exact Nat.le_refl _), ⟨R', hk, RefAt.box hr (by omega) g1 ho⟩, h1.below.trans (ho.below hw), h.hp, hp.trans h.tp, h.lo, h.hi⟩
/-- The cells of a state of the plant p. -/
def RA (p : PlantD) (R : RX) : Array Value := refA R p.tanks.length p.valves.length p.lines.length
def Boxy (w : World) (nb : Nat) : Prop := ∃ R0 a b c, Bk w nb 53 (refA R0 a b c)
theorem Boxy.only {w w' : World} {g nb a b c : Nat} {R0 : RX} (h : Boxy w nb) (ho : Only g w w') (hg : Bk w' g 53 (refA R0 a b c)) : Boxy w' nb := by
  by_cases e : nb = g
  · subst e; exact ⟨_, _, _, _, hg⟩
  · obtain ⟨R1, a1, b1, c1, hb⟩ := h; exact ⟨_, _, _, _, hb.only ho e⟩
/-- What an operation does to the world: m stores a state into a box, the others make memory. -/
def SideE (X : SX) (T : Sys) (m j : Nat) (w1 w2 : World) : Prop :=
  (j ≠ m → Below w1.heap.size w1 w2) ∧ (j = m → (∀ R', @RefAt X.exc w1 w1.heap.size R' T → @RefAt X.exc w2 w2.heap.size R' T) ∧ ∀ nb, Boxy w1 nb → Boxy w2 nb)
/-- What is left by the operations of 'next, f := due(p, w, a)'. -/
def SideR (X : SX) (p : PlantD) (E : Int) (T : Sys) (wr : World) (ix : Nat) (u : Value) (d : Nat → Value) (w1 : World) : Prop :=
  (ix = 6 ∨ ix = 7 → ∃ R', u = .tuple #[.agg (RA p R'), .int .i64 E] ∧ @RefAt X.exc w1 w1.heap.size R' T) ∧ (ix = 8 → ∃ R', u = .agg (RA p R') ∧ @RefAt X.exc w1 w1.heap.size R' T) ∧
  (ix = 10 → ∃ nb, u = .pointer (some ⟨nb, 0, none⟩) ∧ wr.heap.size ≤ nb ∧ Boxy w1 nb) ∧
  (ix = 11 → ∃ R' nb, d 10 = .pointer (some ⟨nb, 0, none⟩) ∧ d 8 = .agg (RA p R') ∧ wr.heap.size ≤ nb ∧ Bk w1 nb 53 (RA p R'))
theorem SideR.keep {w2 : World} {E : Int} {i j : Nat} {u : Value} {d : Nat → Value} (hij : i ≠ j) (h : SideR X p E T wr i u d w1) (he : SideE X T 11 j w1 w2) : SideR X p E T wr i u d w2 := by
  letI : Exc := X.exc
  obtain ⟨h1, h2, h3, h4⟩ := h
  by_cases hj : j = 11
  · obtain ⟨k1, k2⟩ := he.2 hj
    refine ⟨fun e => ?_, fun e => ?_, fun e => ?_, fun e => absurd (e.trans hj.symm) hij⟩
    · obtain ⟨R', a, b⟩ := h1 e; exact ⟨R', a, k1 R' b⟩
    · obtain ⟨R', a, b⟩ := h2 e; exact ⟨R', a, k1 R' b⟩
    · obtain ⟨nb, a, b, c⟩ := h3 e; exact ⟨nb, a, b, k2 nb c⟩
  · have hb := he.1 hj
    refine ⟨fun e => ?_, fun e => ?_, fun e => ?_, fun e => ?_⟩
    · obtain ⟨R', a, b⟩ := h1 e; exact ⟨R', a, (RefAt.below b hb).mono hb.size⟩
    · obtain ⟨R', a, b⟩ := h2 e; exact ⟨R', a, (RefAt.below b hb).mono hb.size⟩
    · obtain ⟨nb, a, b, R1, a1, b1, c1, c⟩ := h3 e; exact ⟨nb, a, b, R1, a1, b1, c1, c.below hb c.lt⟩
    · obtain ⟨R', nb, a, b, c, d'⟩ := h4 e; exact ⟨R', nb, a, b, c, d'.below hb d'.lt⟩
theorem SideE.same (w : World) {j : Nat} (hj : j ≠ 11) : SideE X T 11 j w w := ⟨fun _ => Below.refl _ _, fun h => absurd h hj⟩
theorem SideE.below {w w' : World} {j : Nat} (hj : j ≠ 11) (hb : Below w.heap.size w w') : SideE X T 11 j w w' := ⟨fun _ => hb, fun h => absurd h hj⟩
theorem SideE.store {w w' : World} {nb a b c a' b' c' : Nat} {R0 R1 : RX} (ht : X.hi ≤ nb + 1) (h : Bk w nb 53 (refA R0 a b c)) (ho : Only nb w w') (h' : Bk w' nb 53 (refA R1 a' b' c')) : SideE X T 11 11 w w' := by
  letI : Exc := X.exc
  exact ⟨fun e => absurd rfl e, fun _ => ⟨fun R' hr => RefB.at_ (RefAt.box hr ht h ho), fun n hn => hn.only ho h'⟩⟩
theorem Side.start {R : RX} {nb a b c : Nat} {R0 : RX} {w4 : World} (hs : SysAt w4 X S) (hlo : W.heap.size ≤ X.lo) (hb : Below W.heap.size W w4) (hr : @RefAt X.exc w4 w4.heap.size R T) (hp : S.p = p) (ht : T.p = p)
    (hn : nb = w4.heap.size) (hk : Bk wf nb 53 (SysA R T)) (ho : Only nb (w4.alloc (.cells (refA R0 a b c) 53)) wf) : Side W X nb p wf S T := by
  letI : Exc := X.exc
  subst hn
  have hal : Below w4.heap.size w4 (w4.alloc (.cells (refA R0 a b c) 53)) := (Below.refl _ _).alloc (Nat.le_refl _) _
  have h5 := hs.hi.2.2.2.2
  have hsz := hb.size
  have hr1 := (RefAt.below hr hal).mono hal.size
  exact ⟨(hs.below hal).keep (fun b _ hh => ho.block b (by omega)) (by rw [ho.size]; exact Nat.le_refl _), ⟨R, hk, RefAt.box hr1 (by omega) (Bk.new _ _ _) ho⟩, (hb.trans (hal.mono hsz)).trans (ho.below hsz), hp, ht, hlo, h5⟩
end
end Go.Proofs.YtogobjmmgjfjjaaGreat
