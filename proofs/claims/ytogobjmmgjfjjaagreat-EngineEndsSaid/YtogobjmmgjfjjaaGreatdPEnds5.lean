/- What is proved: the texts R1 R2 R3 R4 R5 R6, one behind the other; each says at its head what it proves, and under which conditions. -/
import Derived.Test.YtogobjmmgjfjjaaGreatdPEnds4
/- What is proved: a state of ullageref07 in memory; contracts of its with and withBool. Conditions: the list lies in memory; it is short. -/
namespace Go.Proofs.YtogobjmmgjfjjaaGreat
open Go.RowKit

/-- Where the lists of a state lie. -/
structure RX where
  a : Nat → Option Addr
  c : Nat → Nat
def RX.upd (R : RX) (k : Nat) (A : Option Addr) (c : Nat) : RX := ⟨fun j => if j = k then A else R.a j, fun j => if j = k then c else R.c j⟩
def lenR (p : PlantD) : Nat → Nat
  | 2 => p.valves.length
  | 3 => p.valves.length
  | 4 => p.valves.length
  | 6 => p.lines.length
  | _ => p.tanks.length
def valR (S : Sys) : Nat → Nat → Value
  | 0, i => .int .i64 (S.tank i).content
  | 1, i => .int .i64 (S.tank i).gas
  | 2, i => .int .i64 (S.at_ i).place
  | 3, i => .bool (S.at_ i).opn
  | 4, i => .bool (S.stuck i)
  | 5, i => .int .i64 (S.tank i).leak
  | 6, i => .int .i64 (S.carried i)
  | 7, i => .int .i64 (S.tank i).lost
  | _, i => .int .i64 (S.tank i).vented
def refA (R : RX) (nt nv nl : Nat) : Array Value :=
  #[.slice (R.a 0) nt (R.c 0), .slice (R.a 1) nt (R.c 1), .slice (R.a 2) nv (R.c 2), .slice (R.a 3) nv (R.c 3), .slice (R.a 4) nv (R.c 4), .slice (R.a 5) nt (R.c 5), .slice (R.a 6) nl (R.c 6), .slice (R.a 7) nt (R.c 7), .slice (R.a 8) nt (R.c 8)]
abbrev SysA (R : RX) (S : Sys) : Array Value := refA R S.p.tanks.length S.p.valves.length S.p.lines.length
theorem SysA_get (R : RX) (S : Sys) (k : Nat) (hk : k < 9) : (SysA R S)[k]? = some (.slice (R.a k) (lenR S.p k) (R.c k)) := by
  match k, hk with
  | 0, _ => rfl
  | 1, _ => rfl
  | 2, _ => rfl
  | 3, _ => rfl
  | 4, _ => rfl
  | 5, _ => rfl
  | 6, _ => rfl
  | 7, _ => rfl
  | 8, _ => rfl
theorem SysA_set (R : RX) (S : Sys) (k : Nat) (hk : k < 9) (A : Option Addr) (c : Nat) : (SysA R S).setIfInBounds k (.slice A (lenR S.p k) c) = SysA (R.upd k A c) S := by
  match k, hk with
  | 0, _ => rfl
  | 1, _ => rfl
  | 2, _ => rfl
  | 3, _ => rfl
  | 4, _ => rfl
  | 5, _ => rfl
  | 6, _ => rfl
  | 7, _ => rfl
  | 8, _ => rfl
/-- Some old blocks in which no list of a state lies. -/
class Exc where
  ex : Nat → Prop
  top : Nat
  lt : ∀ b, ex b → b < top
/-- A list that lies in none of them. -/
structure SlO [Exc] (w : World) (D : Nat → Prop) (A : Option Addr) (n : Nat) (f : Nat → Nat → Value) : Prop where
  sl : SlD w D 1 A n f
  top : Exc.top ≤ w.heap.size
  out : ∀ b off, 0 < n → A = some ⟨b, off, none⟩ → ¬ Exc.ex b
theorem SlO.keep [Exc] {w w' : World} {D : Nat → Prop} {A : Option Addr} {n : Nat} {f : Nat → Nat → Value} (h : SlO w D A n f) (hk : ∀ b, D b → w'.heap[b]? = w.heap[b]?) (hs : w.heap.size ≤ w'.heap.size) : SlO w' D A n f :=
  ⟨h.sl.keep hk, Nat.le_trans h.top hs, h.out⟩
theorem SlO.mono [Exc] {w : World} {D D' : Nat → Prop} {A : Option Addr} {n : Nat} {f : Nat → Nat → Value} (h : SlO w D A n f) (hD : ∀ b, D b → D' b) : SlO w D' A n f := ⟨h.sl.mono hD, h.top, h.out⟩
theorem SlO.of_new [Exc] {w : World} {D D' : Nat → Prop} {A : Option Addr} {n : Nat} {f : Nat → Nat → Value} (h : SlD w D 1 A n f) (ht : Exc.top ≤ w.heap.size) (hD : ∀ b, D b → D' b ∧ Exc.top ≤ b) : SlO w D' A n f :=
  ⟨h.mono fun b hb => (hD b hb).1, ht, fun b off hn hA he => by
    obtain ⟨b', off', hA', hb, _⟩ := h.2 hn
    obtain ⟨rfl, rfl⟩ : b = b' ∧ off = off' := by rw [hA] at hA'; simpa using hA'
    have := Exc.lt b he
    have := (hD b hb).2
    omega⟩
/-- The state's lists, in blocks that D tells. -/
def RefIn [Exc] (w : World) (D : Nat → Prop) (R : RX) (S : Sys) : Prop := ∀ k, k < 9 → SlO w D (R.a k) (lenR S.p k) fun i _ => valR S k i
/-- The state's lists, below block B. -/
def RefAt [Exc] (w : World) (B : Nat) (R : RX) (S : Sys) : Prop := ∀ k, k < 9 → SlO w (· < B) (R.a k) (lenR S.p k) fun i _ => valR S k i
section
variable {w w' : World} {B : Nat} {D : Nat → Prop} {R : RX} {S S' : Sys}
theorem RefAt.below [Exc] (h : RefAt w B R S) (hb : Below B w w') : RefAt w' B R S := fun k hk => (h k hk).keep (fun b hb' => hb.block b hb') hb.size
theorem RefAt.mono [Exc] {B' : Nat} (h : RefAt w B R S) (hb : B ≤ B') : RefAt w B' R S := fun k hk => SlO.mono (h k hk) fun _ hb' => Nat.lt_of_lt_of_le hb' hb
theorem RefAt.place [Exc] (h : RefAt w B R S) : Sl w B 1 (R.a 2) S.p.valves.length fun i _ => .int .i64 (S.at_ i).place := (h 2 (by omega)).sl
theorem RefAt.want [Exc] (h : RefAt w B R S) : Sl w B 1 (R.a 3) S.p.valves.length fun i _ => .bool (S.at_ i).opn := (h 3 (by omega)).sl
theorem RefAt.top [Exc] (h : RefAt w B R S) : Exc.top ≤ w.heap.size := (h 0 (by omega)).top
theorem RefIn.at_ [Exc] (h : RefIn w D R S) (hD : ∀ b, D b → b < B) : RefAt w B R S := fun k hk => SlO.mono (h k hk) hD
theorem RefIn.keep [Exc] (h : RefIn w D R S) (hk : ∀ b, D b → w'.heap[b]? = w.heap[b]?) (hs : w.heap.size ≤ w'.heap.size) : RefIn w' D R S := fun k hk' => SlO.keep (h k hk') hk hs
theorem RefIn.mono [Exc] {D' : Nat → Prop} (h : RefIn w D R S) (hD : ∀ b, D b → D' b) : RefIn w D' R S := fun k hk => SlO.mono (h k hk) hD
theorem RefIn.upd [Exc] (h : RefIn w D R S) {k : Nat} {A : Option Addr} {c : Nat} (hA : SlO w D A (lenR S.p k) fun i _ => valR S' k i) (hp : S'.p = S.p) (hv : ∀ j, j < 9 → j ≠ k → ∀ i, valR S' j i = valR S j i) : RefIn w D (R.upd k A c) S' := by
  intro j hj
  rw [hp]
  unfold RX.upd
  by_cases e : j = k
  · subst e; simp only [if_true]; exact hA
  · simp only [if_neg e]
    have := h j hj
    rw [show (fun i (_ : Nat) => valR S' j i) = (fun i (_ : Nat) => valR S j i) from by funext i _; exact hv j hj e i]
    exact this
end
theorem infoC_rwith : (Tryz.prog.info? 3).map (fun i => (i.zero, i.size, i.bytes)) = some (some (.int .i64 0), 1, 8) := by kernel_rfl
set_option maxRecDepth 100000 in
set_option maxHeartbeats 1000000 in
theorem rwith_any (w : World) (A : Option Addr) (n c : Nat) (f : Nat → Int) (h : Sl w w.heap.size 1 A n fun i _ => .int .i64 (f i)) (hn : n ≤ 4096) (i : Nat) (hi : i < n) (v : Int) :
    Calls Tryz.prog 113 #[.slice A n c, .int .i64 i, .int .i64 v] w fun e w' => ∃ A' c', e = .returned (.slice A' n c') ∧ SlD w' (fun b => w.heap.size ≤ b ∧ b < w'.heap.size) 1 A' n (fun k _ => .int .i64 (if k = i then v else f k)) ∧ Below w.heap.size w w' := by
  obtain ⟨b, off, rfl, hB, hc⟩ := h.2 (by omega)
  obtain ⟨i0, hi0, hz0, hz1, hz2⟩ := info_parts infoC_rwith
  have hii : (i : Int) < (n : Int) := by omega
  have h0i : (0 : Int) ≤ (i : Int) := by omega
  have hcell : Hid (∀ o j u, (rowsL n 1 fun i _ => .int .i64 (f i))[j]? = some u → (w.alloc o).cell? ((⟨b, off, none⟩ : Addr).add j) = some u) := Lib.hid fun o j u hj => by
    rw [Addr.add_lit]
    exact Lib.cell?_alloc_some _ (rowsL_cell hc j u hj)
  clear h hc
  go_enter Tryz.func113, Tryz.ntmps113
  go_wp2_with (at_builtin; refine wpList_append_own _ rfl _ _ 50 rfl w.heap.size 3 i0 (.int .i64 0) 1 8 Tryz.underlying50 hi0 hz0 hz1 hz2 rfl (by decide) _ _ _ rfl (World.ownsRow_made w #[] 0 (Nat.le_refl _) (Nat.zero_le _) rfl) ⟨b, off, none⟩ n c (rowsL n 1 fun i _ => .int .i64 (f i)) rfl ?qc1 ?qc2 ?qc3 ?qc4 ?qc5 ?qc6 ?_)
  case qc1 => exact rowsL_len _ _ _
  case qc2 => exact hcell.out _
  case qc3 => exact rowsL_one fun _ _ => rfl
  case qc4 => unfold maxLen; omega
  case qc5 => omega
  case qc6 => simp
  intro v' w1 hown hgrow _
  obtain ⟨A', c', rfl, hcl⟩ := Cl.of_own hn (by simpa only [Nat.zero_add, List.nil_append] using hown)
  have hB : Below w.heap.size w w1 := ((Below.refl _ w).alloc (Nat.le_refl _) _).grown hgrow (by simp) (by intro k hk; simp [Value.ownBlock] at hk; omega)
  obtain ⟨_, hcl⟩ := hcl
  obtain ⟨g, cur, rfl, hg, hbk, hcur⟩ := hcl (by omega)
  have q0 : w1.cell? ⟨g, i, none⟩ = some (.int .i64 (f i)) := (hbk.cell i).trans (by have := hcur i hi 0 (by omega); simpa using this)
  have f0 := hbk.free i
  have HB := Lib.hid (hB.setCell (p := ⟨g, i, none⟩) hg (.int .i64 v))
  have HS : Hid (SlD (w1.setCell ⟨g, i, none⟩ (.int .i64 v)) (fun b => w.heap.size ≤ b ∧ b < (w1.setCell ⟨g, i, none⟩ (.int .i64 v)).heap.size) 1 (some ⟨g, 0, none⟩) n (fun k _ => .int .i64 (if k = i then v else f k))) := Lib.hid (by
    refine ⟨by omega, fun _ => ⟨g, 0, rfl, ⟨hg, (hbk.set i _).lt⟩, fun k hk j hj => ?_⟩⟩
    obtain rfl : j = 0 := by omega
    rw [show 0 + k * 1 + 0 = k from by omega, (hbk.set i (.int .i64 v)).cell k]
    have hk2 := hcur k hk 0 (by omega)
    simp only [Nat.mul_one, Nat.add_zero] at hk2
    rw [Array.getElem?_setIfInBounds]
    by_cases e : i = k
    · subst e
      rw [if_pos rfl, if_pos (Array.getElem?_eq_some_iff.1 hk2).1]
      show some (Value.int .i64 v) = some (.int .i64 (if i = i then v else f i))
      rw [if_pos rfl]
    · rw [if_neg e]
      show cur[k]? = some (.int .i64 (if k = i then v else f k))
      rw [if_neg (fun h => e h.symm)]; exact hk2)
  clear hown hgrow hcl hcur hbk hB hcell
  go_wp2_with fail
  go_ret
  exact ⟨_, _, rfl, HS.out, HB.out⟩

end Go.Proofs.YtogobjmmgjfjjaaGreat
/- What is proved: contracts of ullageref07's holds, Holds, Literals, safe. Conditions: the plant and the state lie in memory. -/
namespace Go.Proofs.YtogobjmmgjfjjaaGreat
open Go.RowKit
theorem Sl.at1v {w : World} {B n i : Nat} {A : Option Addr} {f : Nat → Value} (h : Sl w B 1 A n fun i _ => f i) (hi : i < n) : ∃ b off, A = some ⟨b, off, none⟩ ∧ b < B ∧ w.cell? ⟨b, off + i, none⟩ = some (f i) := h.at1 hi
theorem SlO.at1v [Exc] {w : World} {B n i : Nat} {A : Option Addr} {f : Nat → Value} (h : SlO w (· < B) A n fun i _ => f i) (hi : i < n) : ∃ b off, A = some ⟨b, off, none⟩ ∧ b < B ∧ w.cell? ⟨b, off + i, none⟩ = some (f i) := Sl.at1v h.sl hi
end Go.Proofs.YtogobjmmgjfjjaaGreat
/- What is proved: contracts of ullageref07's Put, Order, Stick, Leak. Conditions: the plant and the state lie in memory; the lists are short. -/
namespace Go.Proofs.YtogobjmmgjfjjaaGreat
open Go.RowKit

def Short (p : PlantD) : Prop := p.tanks.length ≤ 4096 ∧ p.valves.length ≤ 4096 ∧ p.lines.length ≤ 4096
def nilR : RX := ⟨fun _ => none, fun _ => 0⟩
theorem SlD.congr {w : World} {D : Nat → Prop} {k n : Nat} {A : Option Addr} {f g : Nat → Nat → Value} (h : SlD w D k A n f) (hf : ∀ i, i < n → ∀ j, j < k → f i j = g i j) : SlD w D k A n g :=
  ⟨h.1, fun hn => by obtain ⟨b, off, e, h1, h2⟩ := h.2 hn; exact ⟨b, off, e, h1, fun i hi j hj => (h2 i hi j hj).trans (by rw [hf i hi j hj])⟩⟩
/-- The state's lists lie in no box: the boxes are from lo to hi. -/
def RefB [Exc] (w : World) (lo hi : Nat) (R : RX) (S : Sys) : Prop := Exc.top ≤ hi ∧ RefIn w (fun b => (b < lo ∨ hi ≤ b) ∧ b < w.heap.size) R S
section
variable {w w1 w2 W : World} {lo hi q g sb : Nat} {R : RX} {S S' : Sys}
theorem RefB.at_ [Exc] (h : RefB w lo hi R S) : RefAt w w.heap.size R S := fun k hk => SlO.mono (h.2 k hk) fun _ hb => hb.2
theorem RefB.below [Exc] (h : RefB w lo hi R S) (hb : Below w.heap.size w w1) : RefB w1 lo hi R S := ⟨h.1, fun k hk => SlO.mono (SlO.keep (h.2 k hk) (fun b hb' => hb.block b hb'.2) hb.size) fun _ hb' => ⟨hb'.1, Nat.lt_of_lt_of_le hb'.2 hb.size⟩⟩
theorem RefB.only [Exc] (h : RefB w lo hi R S) (hO : Only g w w1) (h1 : lo ≤ g) (h2 : g < hi) : RefB w1 lo hi R S := ⟨h.1, fun k hk =>
  SlO.mono (SlO.keep (h.2 k hk) (fun b hb' => hO.block b (by have := hb'.1; omega)) (by rw [hO.size]; exact Nat.le_refl _)) fun _ hb' => ⟨hb'.1, by rw [hO.size]; exact hb'.2⟩⟩
theorem RefB.upd [Exc] {k : Nat} {A : Option Addr} {c : Nat} {D : Nat → Prop} (h : RefB w lo hi R S) (hA : SlD w D 1 A (lenR S.p k) fun i _ => valR S' k i) (hD : ∀ b, D b → hi ≤ b ∧ b < w.heap.size) (hp : S'.p = S.p) (hv : ∀ j, j < 9 → j ≠ k → ∀ i, valR S' j i = valR S j i) : RefB w lo hi (R.upd k A c) S' :=
  ⟨h.1, RefIn.upd h.2 (SlO.of_new hA (h.2 0 (by omega)).top fun b hb => ⟨⟨.inr (hD b hb).1, (hD b hb).2⟩, Nat.le_trans h.1 (hD b hb).1⟩) hp hv⟩
/-- One list was made anew, and its slice stored into the state's box. -/
theorem RefB.step [Exc] {k : Nat} {A : Option Addr} (h : RefB w1 lo hi R S) (hhi : hi ≤ w1.heap.size) (hb : Bk w1 sb 53 (SysA R S)) (hl : lo ≤ sb) (hu : sb < hi) (h2 : Below w1.heap.size w1 w2) (hk : k < 9) (c : Nat)
    (hA : SlD w2 (fun b => w1.heap.size ≤ b ∧ b < w2.heap.size) 1 A (lenR S.p k) fun i _ => valR S' k i) (hp : S'.p = S.p) (hv : ∀ j, j < 9 → j ≠ k → ∀ i, valR S' j i = valR S j i) :
    Bk (w2.setCell ⟨sb, k, none⟩ (.slice A (lenR S.p k) c)) sb 53 (SysA (R.upd k A c) S') ∧ RefB (w2.setCell ⟨sb, k, none⟩ (.slice A (lenR S.p k) c)) lo hi (R.upd k A c) S' := by
  have hO := Only.setCell w2 sb k (.slice A (lenR S.p k) c)
  refine ⟨?_, ?_⟩
  · have := (hb.below h2 hb.lt).set k (.slice A (lenR S.p k) c)
    rw [SysA_set R S k hk] at this
    show Bk _ _ _ (refA _ S'.p.tanks.length S'.p.valves.length S'.p.lines.length)
    rw [hp]; exact this
  · refine RefB.upd ((h.below h2).only hO hl hu) (D := fun b => w1.heap.size ≤ b ∧ b < w2.heap.size) ?_ (fun _ hb' => ⟨by omega, by rw [hO.size]; exact hb'.2⟩) hp hv
    exact hA.keep fun b hb' => hO.block b (by have := hb'.1; omega)
end
end Go.Proofs.YtogobjmmgjfjjaaGreat
/- What is proved: a contract of ullageref07.moved. Conditions: the plant and the state lie in memory; the places are a plant's. -/
namespace Go.Proofs.YtogobjmmgjfjjaaGreat
open Go.RowKit

/-- A state was handed back. -/
def RefOne [Exc] (w : World) (S : Sys) (e : Ending) (w' : World) : Prop := ∃ R', e = .returned (.agg (SysA R' S)) ∧ RefAt w' w'.heap.size R' S ∧ Below w.heap.size w w'
def Sys.mv (S : Sys) (k : Nat) : Sys := { S with at_ := movedK S.p S.at_ S.stuck k }
theorem mv_opn (S : Sys) (k i : Nat) : ((S.mv k).at_ i).opn = (S.at_ i).opn := by
  show (movedK S.p S.at_ S.stuck k i).opn = _
  unfold movedK
  split
  · unfold move1; split
    · rfl
    · split <;> rfl
  · rfl
theorem mv_succ (S : Sys) (k i : Nat) : ((S.mv (k + 1)).at_ i) = if i = k then move1 (S.p.valve k).travel (S.stuck k) (S.at_ k) else (S.mv k).at_ i := by
  show movedK S.p S.at_ S.stuck (k + 1) i = _
  rw [movedK_succ, movedK_at]
  rfl
theorem valR_mv (S : Sys) (k : Nat) : ∀ j, j < 9 → j ≠ 2 → ∀ i, valR (S.mv (k + 1)) j i = valR (S.mv k) j i := by
  intro j _ hne i
  match j, hne with
  | 0, _ => rfl
  | 1, _ => rfl
  | 3, _ => show Value.bool ((S.mv (k + 1)).at_ i).opn = .bool ((S.mv k).at_ i).opn; rw [mv_opn, mv_opn]
  | 4, _ => rfl
  | 5, _ => rfl
  | 6, _ => rfl
  | 7, _ => rfl
  | n + 8, _ => rfl
/-- Behind k valves; blocks lo, lo + 1, lo + 2 are the boxes. -/
def MvR [Exc] (w : World) (x : PV) (S : Sys) (wr : World) (k : Nat) : Prop :=
  ∃ R, Bk wr (w.heap.size + 1) 53 (SysA R (S.mv k)) ∧ RefB wr w.heap.size (w.heap.size + 3) R (S.mv k) ∧ Bk wr w.heap.size 27 (plantA x S.p) ∧ Bk wr (w.heap.size + 1 + 1) 53 (refA nilR 0 0 0) ∧
    PlantAt wr w.heap.size x S.p ∧ Below w.heap.size w wr ∧ w.heap.size + 3 ≤ wr.heap.size
/-- A new list of places was stored. -/
theorem MvR.step [Exc] {w : World} {x : PV} {S : Sys} {wr w1 : World} {k : Nat} {R : RX} (hb1 : Bk wr (w.heap.size + 1) 53 (SysA R (S.mv k))) (hr : RefB wr w.heap.size (w.heap.size + 3) R (S.mv k)) (hb0 : Bk wr w.heap.size 27 (plantA x S.p))
    (hb2 : Bk wr (w.heap.size + 1 + 1) 53 (refA nilR 0 0 0)) (hp : PlantAt wr w.heap.size x S.p) (hb : Below w.heap.size w wr) (hsz : w.heap.size + 3 ≤ wr.heap.size) (hw1 : Below wr.heap.size wr w1) {nv : Nat} (hnv : nv = S.p.valves.length)
    (A : Option Addr) (c : Nat) (v : Int) (hv : v = (move1 (S.p.valve k).travel (S.stuck k) (S.at_ k)).place)
    (hA : SlD w1 (fun b => wr.heap.size ≤ b ∧ b < w1.heap.size) 1 A nv (fun j _ => .int .i64 (if j = k then v else ((S.mv k).at_ j).place))) : MvR w x S (w1.setCell ⟨w.heap.size + 1, 2, none⟩ (.slice A nv c)) (k + 1) := by
  subst hnv
  have hst := RefB.step hr hsz hb1 (by omega) (by omega) hw1 (k := 2) (by omega) c (S' := S.mv (k + 1)) (hA.congr (fun i _ j _ => by
    show Value.int .i64 _ = .int .i64 ((S.mv (k + 1)).at_ i).place
    rw [mv_succ]
    split
    · rw [hv]
    · rfl)) rfl (valR_mv S k)
  have hO := Only.setCell w1 (w.heap.size + 1) 2 (.slice A S.p.valves.length c)
  have hbx : Below w.heap.size wr (w1.setCell ⟨w.heap.size + 1, 2, none⟩ (.slice A S.p.valves.length c)) := (hw1.mono (by omega)).trans (hO.below (by omega))
  exact ⟨_, hst.1, hst.2, (hb0.below hw1 (by omega)).only hO (by omega), (hb2.below hw1 (by omega)).only hO (by omega), hp.below hbx, hb.trans hbx, by rw [hO.size]; have := hw1.size; omega⟩
end Go.Proofs.YtogobjmmgjfjjaaGreat
/- What is proved: a contract of ullageref07.Begin. Conditions: the plant lies in memory; its lists are short. -/
namespace Go.Proofs.YtogobjmmgjfjjaaGreat
open Go.RowKit
def lenN (nt nv nl : Nat) : Nat → Nat
  | 2 => nv
  | 3 => nv
  | 4 => nv
  | 6 => nl
  | _ => nt
theorem lenN_of (p : PlantD) (j : Nat) : lenR p j = lenN p.tanks.length p.valves.length p.lines.length j := by
  by_cases h2 : j = 2
  · subst h2; rfl
  by_cases h3 : j = 3
  · subst h3; rfl
  by_cases h4 : j = 4
  · subst h4; rfl
  by_cases h6 : j = 6
  · subst h6; rfl
  unfold lenR lenN; split <;> simp_all
def bgX (B : Nat → Nat) (nt nv nl : Nat) : RX := ⟨fun j => some ⟨B j, 0, none⟩, fun j => lenN nt nv nl j⟩
def ownK (j : Nat) : Bool := j == 1 || j == 3 || j == 5 || j == 7 || j == 9 || j == 11 || j == 15 || j == 17 || j == 19 || j == 21
/-- What holds while the first state is built: the new blocks are apart. -/
structure BgJ (W : World) (dn : Nat → Bool) (vs : Nat → Value) (w1 : World) : Prop where
  below : Below W.heap.size W w1
  own : ∀ j, ownK j = true → dn j = true → W.heap.size ≤ blk (vs j) ∧ blk (vs j) < w1.heap.size
  ne : ∀ i j, ownK i = true → ownK j = true → dn i = true → dn j = true → i ≠ j → blk (vs i) ≠ blk (vs j)
theorem BgJ.step {W w1 w2 : World} {dn : Nat → Bool} {vs : Nat → Value} (h : BgJ W dn vs w1) (i : Nat) (v : Value) (hb : Below w1.heap.size w1 w2) (hv : ownK i = true → w1.heap.size ≤ blk v ∧ blk v < w2.heap.size) :
    BgJ W (updB dn i) (updV vs i v) w2 := by
  have hs := h.below.size
  have hs2 := hb.size
  refine ⟨h.below.trans (hb.mono hs), fun j hj hd => ?_, fun j l hj hl hd hd2 hne => ?_⟩
  · unfold updV; unfold updB at hd
    by_cases e : j = i
    · subst e; rw [if_pos rfl]; have := hv hj; omega
    · rw [if_neg e] at hd ⊢; have := h.own j hj hd; omega
  · unfold updV; unfold updB at hd hd2
    by_cases e : j = i
    · subst e
      rw [if_neg (Ne.symm hne)] at hd2
      rw [if_pos rfl, if_neg (Ne.symm hne)]
      have := hv hj; have := h.own l hl hd2; omega
    · rw [if_neg e] at hd ⊢
      by_cases e2 : l = i
      · subst e2; rw [if_pos rfl]; have := hv hl; have := h.own j hj hd; omega
      · rw [if_neg e2] at hd2 ⊢; exact h.ne j l hj hl hd hd2 hne
theorem BgJ.only {W w1 w2 : World} {dn : Nat → Bool} {vs : Nat → Value} (h : BgJ W dn vs w1) (h21 : dn 21 = true) (ho : Only (blk (vs 21)) w1 w2) : BgJ W (updB dn 22) (updV vs 22 undef) w2 := by
  have h0 := h.own 21 rfl h21
  have hne : ∀ j, ownK j = true → j ≠ 22 := by rintro j hj rfl; cases hj
  refine ⟨h.below.trans (ho.below h0.1), fun j hj hd => ?_, fun j l hj hl hd hd2 hjl => ?_⟩
  · unfold updV; unfold updB at hd
    rw [if_neg (hne j hj)] at hd ⊢; rw [ho.size]; exact h.own j hj hd
  · unfold updV; unfold updB at hd hd2
    rw [if_neg (hne j hj)] at hd ⊢; rw [if_neg (hne l hl)] at hd2 ⊢; exact h.ne j l hj hl hd hd2 hjl
def BgE (j : Nat) (w1 w2 : World) : Prop :=
  (j ≠ 22 → Below w1.heap.size w1 w2) ∧ (Below w1.heap.size w1 w2 ∨ ∃ gb cs', Only gb w1 w2 ∧ (∃ cs, Bk w1 gb 53 cs) ∧ Bk w2 gb 53 cs' ∧ cs'.size = 9)
theorem BgE.of {j : Nat} {w1 w2 : World} (h : Below w1.heap.size w1 w2) : BgE j w1 w2 := ⟨fun _ => h, .inl h⟩
theorem BgE.bk {j : Nat} {w1 w2 : World} {g : Nat} {T : TypeId} {cs : Array Value} (h : BgE j w1 w2) (hb : Bk w1 g T cs) (hT : T ≠ 53) : Bk w2 g T cs := by
  rcases h.2 with h | ⟨gb, cs', ho, ⟨cs2, h2⟩, _, _⟩
  · exact hb.below h hb.lt
  · exact hb.only ho (hb.ne h2 hT)
theorem BgE.gb {j : Nat} {w1 w2 : World} {g : Nat} {cs : Array Value} (h : BgE j w1 w2) (hb : Bk w1 g 53 cs) (hs : cs.size = 9) : ∃ cs', cs'.size = 9 ∧ Bk w2 g 53 cs' := by
  rcases h.2 with h | ⟨gb, cs', ho, _, h3, h4⟩
  · exact ⟨cs, hs, hb.below h hb.lt⟩
  · by_cases e : g = gb
    · subst e; exact ⟨cs', h4, h3⟩
    · exact ⟨cs, hs, hb.only ho e⟩
/-- The lists of a state that is being made. -/
def tyR (j : Nat) : TypeId := if j = 3 ∨ j = 4 then 4 else 3
theorem tyR_ne (j : Nat) : tyR j ≠ 53 := by unfold tyR; split <;> decide
def lisR (n : Nat) (f : Nat → Value) : Array Value := (Array.range n).map f
theorem lisR_get (n : Nat) (f : Nat → Value) (i : Nat) (hi : i < n) : (lisR n f)[i]? = some (f i) := by unfold lisR; simp [hi]
theorem lisR_set (n : Nat) (f : Nat → Value) (k : Nat) (v : Value) : (lisR n f).setIfInBounds k v = lisR n fun i => if i = k then v else f i := by
  apply Array.ext_getElem?
  intro m
  rw [Array.getElem?_setIfInBounds]
  unfold lisR
  by_cases hm : m < n
  · by_cases e : k = m
    · subst e; simp [hm]
    · simp [hm, e, Ne.symm e]
  · by_cases e : k = m
    · subst e; simp [hm]
    · simp [hm, e]
structure BgL (w : World) (lo : Nat) (nt nv nl : Nat) (B : Nat → Nat) (sb : Nat) (G : Nat → Nat → Value) : Prop where
  bk : ∀ j, j < 9 → Bk w (B j) (tyR j) (lisR (lenN nt nv nl j) (G j))
  ne : ∀ i j, i < 9 → j < 9 → i ≠ j → B i ≠ B j
  low : ∀ j, j < 9 → lo ≤ B j
  st : Bk w sb 53 (refA (bgX B nt nv nl) nt nv nl)
  slo : lo ≤ sb
theorem BgL.keep {w w' : World} {lo nt nv nl sb : Nat} {B : Nat → Nat} {G : Nat → Nat → Value} (h : BgL w lo nt nv nl B sb G) (hh : w'.heap = w.heap) : BgL w' lo nt nv nl B sb G :=
  ⟨fun j hj => by have := h.bk j hj; unfold Bk at this ⊢; rw [hh]; exact this, h.ne, h.low, by have := h.st; unfold Bk at this ⊢; rw [hh]; exact this, h.slo⟩
theorem BgL.set {w : World} {lo nt nv nl sb : Nat} {B : Nat → Nat} {G : Nat → Nat → Value} (h : BgL w lo nt nv nl B sb G) (j k : Nat) (v : Value) (hj : j < 9) :
    BgL (w.setCell ⟨B j, k, none⟩ v) lo nt nv nl B sb (fun j' i => if j' = j ∧ i = k then v else G j' i) := by
  have hO := Only.setCell w (B j) k v
  refine ⟨fun j' hj' => ?_, h.ne, h.low, h.st.only hO (fun e => ((h.bk j hj).ne h.st (tyR_ne j)) e.symm), h.slo⟩
  by_cases e : j' = j
  · subst e
    have := (h.bk j' hj').set k v
    rw [lisR_set] at this
    simpa using this
  · have := (h.bk j' hj').only hO (h.ne j' j hj' hj e)
    simpa [e] using this
theorem BgL.cell {w : World} {lo nt nv nl sb : Nat} {B : Nat → Nat} {G : Nat → Nat → Value} (h : BgL w lo nt nv nl B sb G) (j k : Nat) (hj : j < 9) (hk : k < lenN nt nv nl j) : w.cell? ⟨B j, k, none⟩ = some (G j k) := ((h.bk j hj).cell k).trans (lisR_get _ _ _ hk)
theorem BgL.ref {w : World} {lo sb : Nat} {p : PlantD} {B : Nat → Nat} {G : Nat → Nat → Value} (h : BgL w lo p.tanks.length p.valves.length p.lines.length B sb G) (hs : Short p) (S : Sys) (hp : S.p = p) (hv : ∀ j, j < 9 → ∀ i, i < lenR p j → G j i = valR S j i) :
    ∀ j, j < 9 → Sl w w.heap.size 1 ((bgX B p.tanks.length p.valves.length p.lines.length).a j) (lenR S.p j) fun i _ => valR S j i := fun j hj => by
  subst hp
  refine ⟨?_, fun _ => ⟨B j, 0, rfl, (h.bk j hj).lt, fun i hi k hk => ?_⟩⟩
  · obtain ⟨h1, h2, h3⟩ := hs
    unfold lenR; split <;> omega
  · obtain rfl : k = 0 := by omega
    rw [show 0 + i * 1 + 0 = i from by omega, h.cell j i hj (by rw [← lenN_of]; exact hi), hv j hj i hi]
/-- The first state, the first k valves done. -/
def begS (p : PlantD) (k : Nat) : Sys := { startB p with at_ := firstK p k }
def BgR (w : World) (x : PV) (p : PlantD) (nt nv nl : Nat) (B : Nat → Nat) (sb : Nat) (wr : World) (k : Nat) : Prop :=
  BgL wr (w.heap.size + 2) nt nv nl B sb (valR (begS p k)) ∧ Bk wr w.heap.size 27 (plantA x p) ∧ Bk wr (w.heap.size + 1) 53 (refA nilR 0 0 0) ∧ PlantAt wr w.heap.size x p ∧ Below w.heap.size w wr
theorem BgL.congr {w : World} {lo nt nv nl sb : Nat} {B : Nat → Nat} {G G' : Nat → Nat → Value} (h : BgL w lo nt nv nl B sb G) (hG : ∀ j, j < 9 → ∀ i, G j i = G' j i) : BgL w lo nt nv nl B sb G' :=
  ⟨fun j hj => by rw [← show G j = G' j from funext fun i => hG j hj i]; exact h.bk j hj, h.ne, h.low, h.st, h.slo⟩
theorem BgR.step {w : World} {x : PV} {p : PlantD} {nt nv nl : Nat} {B : Nat → Nat} {sb : Nat} {wr : World} {k : Nat} (h : BgR w x p nt nv nl B sb wr k)
    (hE : ∀ j, j < 9 → ∀ i, (if j = 3 ∧ i = k then Value.bool true else if j = 2 ∧ i = k then .int .i64 (p.valve k).travel else valR (begS p k) j i) = valR (begS p (k + 1)) j i) :
    BgR w x p nt nv nl B sb ((wr.setCell ⟨B 2, k, none⟩ (.int .i64 (p.valve k).travel)).setCell ⟨B 3, k, none⟩ (.bool true)).drew (k + 1) := by
  obtain ⟨h1, h2, h3, h4, h5⟩ := h
  have hl := (((h1.set 2 k (.int .i64 (p.valve k).travel) (by omega)).set 3 k (.bool true) (by omega)).congr hE).keep (w' := ((wr.setCell ⟨B 2, k, none⟩ (.int .i64 (p.valve k).travel)).setCell ⟨B 3, k, none⟩ (.bool true)).drew) rfl
  have q2 := h1.low 2 (by omega)
  have q3 := h1.low 3 (by omega)
  have hb : Below (w.heap.size + 2) wr ((wr.setCell ⟨B 2, k, none⟩ (.int .i64 (p.valve k).travel)).setCell ⟨B 3, k, none⟩ (.bool true)).drew := ((((Below.refl _ _).setCell (p := ⟨B 2, k, none⟩) q2 _).setCell (p := ⟨B 3, k, none⟩) q3 _)).drew
  exact ⟨hl, h2.below hb (by omega), h3.below hb (by omega), h4.below (hb.mono (by omega)), h5.trans (hb.mono (by omega))⟩

end Go.Proofs.YtogobjmmgjfjjaaGreat
/- What is proved: contracts of ullageref07's tanks, valves. Conditions: the list lies in memory. -/
namespace Go.Proofs.YtogobjmmgjfjjaaGreat
open Go.RowKit
theorem allN_false {n : Nat} {q : Nat → Bool} {k : Nat} (hk : k < n) (h : q k = false) : allN n q = false := by unfold allN; rw [List.all_eq_false]; exact ⟨k, by simpa using hk, by simp [h]⟩
theorem allN_true {n : Nat} {q : Nat → Bool} (h : ∀ i, i < n → q i = true) : allN n q = true := by unfold allN; rw [List.all_eq_true]; intro i hi; exact h i (by simpa using hi)

end Go.Proofs.YtogobjmmgjfjjaaGreat
