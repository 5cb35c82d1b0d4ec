/- What is proved: the texts W4 W5 W6 W7 W8 Wc, one behind the other; each says at its head what it proves, and under which conditions. -/
import Derived.Outline
import Derived.Test.YtogobjmmgjfjjaaGreatdPRuns12
/- What is proved: contracts of the document's kept and Disorders. Conditions: the plant, the state, what goes wrong lie in memory. -/
namespace Go.Proofs.YtogobjmmgjfjjaaGreat
open Go.RowKit

set_option maxRecDepth 100000 in
set_option maxHeartbeats 2000000 in
theorem refKept_any [Exc] (w : World) (x : PV) (R : RX) (S : Sys) (hp : PlantAt w w.heap.size x S.p) (hr : RefAt w w.heap.size R S) (ok : SysOk S) (n : NeedD) (hn : needOk S.p n = true) :
    Calls Tryz.prog 154 #[.agg (plantA x S.p), .agg (SysA R S), .agg #[needC n 0, needC n 1, needC n 2, needC n 3]] w fun e w' => e = .returned (.bool (keptB S n)) ∧ Below w.heap.size w w' := by
  obtain ⟨kind, of_, low, high⟩ := n
  simp only [needC]
  obtain ⟨W, hW⟩ : ∃ W, W = (((w.alloc (.cells (plantA x S.p) 27)).alloc (.cells (SysA R S) 53)).alloc (.cells #[.int .i64 kind, .int .i64 of_, .int .i64 low, .int .i64 high] 70)) := ⟨_, rfl⟩
  have hbW : Below w.heap.size w W := by rw [hW]; exact (((Below.refl _ _).alloc (Nat.le_refl _) _).alloc (by simp) _).alloc (by simp; omega) _
  have hb0 : Bk W w.heap.size 27 (plantA x S.p) := by rw [hW]; exact ((Bk.new _ _ _).alloc _).alloc _
  have hb1 : Bk W (w.heap.size + 1) 53 (SysA R S) := by rw [hW]; exact (Bk.newAt _ _ _ _ (by simp)).alloc _
  have hb2 : Bk W (w.heap.size + 1 + 1) 70 #[.int .i64 kind, .int .i64 of_, .int .i64 low, .int .i64 high] := by rw [hW]; exact Bk.newAt _ _ _ _ (by simp)
  have p0 := Ext.cell (hb0.cell 0); have p1 := Ext.cell (hb0.cell 1); have p2 := Ext.cell (hb0.cell 2); have p3 := Ext.cell (hb0.cell 3)
  have s0 := Ext.cell (hb1.cell 0); have s1 := Ext.cell (hb1.cell 1); have s2 := Ext.cell (hb1.cell 2); have s3 := Ext.cell (hb1.cell 3); have s4 := Ext.cell (hb1.cell 4)
  have s5 := Ext.cell (hb1.cell 5); have s6 := Ext.cell (hb1.cell 6); have s7 := Ext.cell (hb1.cell 7); have s8 := Ext.cell (hb1.cell 8)
  have n0 := Ext.cell (hb2.cell 0); have n1 := Ext.cell (hb2.cell 1); have n2 := Ext.cell (hb2.cell 2); have n3 := Ext.cell (hb2.cell 3)
  simp only [plantA] at p0 p1 p2 p3
  simp only [SysA, refA] at s0 s1 s2 s3 s4 s5 s6 s7 s8
  have HN : Hid (∀ z : Ext W, _) := Lib.hid fun z => refNumber_any z.w x R S (((hp.below hbW).below (z.h.mono hbW.size)).mono (Nat.le_trans hbW.size z.h.size)) (((hr.below hbW).below (z.h.mono hbW.size)).mono (Nat.le_trans hbW.size z.h.size)) ok kind of_ low high hn
  have HI := Lib.hid fun (a : Int) (z : Ext W) => in_any a low high z.w
  have HK := Lib.hid (show keptB S ⟨kind, of_, low, high⟩ = inB (numOf S kind of_) low high from rfl)
  have HB := Lib.hid hbW
  have HW := Lib.hid hW
  simp only [plantA, SysA, refA] at HW HN
  clear hW hbW hb0 hb1 hb2 hp hr ok
  dsimp only [plantA, SysA, refA]
  go_enter Tryz.func154, Tryz.ntmps154
  go_wp2_with fail
  rw [← HW.out]
  refine wp_region_ext_quiet (by kernel_rfl) (by kernel_rfl) ?_
  repeat (go_big_quiet_step (first | ((go_at_call 89; exact Ext.calls (HN.out _))) | ((go_at_call 76; exact Ext.same (HI.out _ _)))))
  refine wpQuiet_nil ?_
  intro w5 hw5
  go_wp2_with fail
  go_ret
  exact ⟨ret_bool HK.out.symm, HB.out.trans (hw5.mono HB.out.size)⟩

set_option maxRecDepth 100000 in
set_option maxHeartbeats 4000000 in
theorem refDisorders_any (w : World) (x : PV) (p : PlantD) (hn : p.tanks.length ≤ 100000 ∧ p.valves.length ≤ 100000) (A : Option Addr) (c : Nat) (l : List DisD) (hl : DisAt w w.heap.size A l) :
    Calls Tryz.prog 104 #[.agg (plantA x p), .slice A l.length c] w fun e w' => e = .returned (.bool (dissB p l)) ∧ Below w.heap.size w w' := by
  obtain ⟨W, hW⟩ : ∃ W, W = w.alloc (.cells (plantA x p) 27) := ⟨_, rfl⟩
  have hbW : Below w.heap.size w W := by rw [hW]; exact (Below.refl _ _).alloc (Nat.le_refl _) _
  have hb0 : Bk W w.heap.size 27 (plantA x p) := by rw [hW]; exact Bk.new _ _ _
  have HL : Hid (DisAt W W.heap.size A l) := Lib.hid (Sl.mono (Sl.below hl hbW) hbW.size)
  obtain ⟨h1, h2⟩ := hn
  obtain ⟨nt, hnt⟩ : ∃ n, p.tanks.length = n := ⟨_, rfl⟩
  obtain ⟨nv, hnv⟩ : ∃ n, p.valves.length = n := ⟨_, rfl⟩
  have c0 : W.cell? ⟨w.heap.size, 0, none⟩ = some (.slice x.tA nt x.tc) := by rw [← hnt]; exact hb0.cell 0
  have c1 : W.cell? ⟨w.heap.size, 1, none⟩ = some (.slice x.vA nv x.vc) := by rw [← hnv]; exact hb0.cell 1
  have HD0 : Hid (∀ d : DisD, disOk p d = (inB d.at_ 0 10000 && inB d.kind 0 1 && inB d.of_ 0 ((if d.kind = 1 then (nt : Int) else (nv : Int)) - 1) && inB d.rate 0 1073741824)) := Lib.hid fun d => by rw [← hnt, ← hnv]; rfl
  rw [hnt] at h1
  rw [hnv] at h2
  have w1 : IntKind.i64.wrap ((nt : Int) - 1) = (nt : Int) - 1 := IntWalk.i64_in _ (by omega)
  have w2 : IntKind.i64.wrap ((nv : Int) - 1) = (nv : Int) - 1 := IntWalk.i64_in _ (by omega)
  have hn9 : l.length ≤ 9223372036854775807 := hl.1
  have HB := Lib.hid hbW
  have HW := Lib.hid hW
  obtain ⟨n, hnl⟩ : ∃ n, l.length = n := ⟨_, rfl⟩
  have HR := Lib.hid (show dissB p l = (decide ((n : Int) ≤ 64) && allN n fun i => disOk p (l.getD i dis0)) by rw [← hnl]; rfl)
  simp only [plantA] at HW ⊢
  rw [hnl] at hn9 ⊢
  rw [hnt, hnv] at HW ⊢
  have HNL := Lib.hid hnl
  clear hl hW hbW hb0 hnl hnt hnv
  go_enter Tryz.func104, Tryz.ntmps104
  go_wp2_with fail
  rw [← HW.out]
  go_loop [5] (fun i => ∃ k : Nat, k ≤ n ∧ i = .int .i64 k ∧ Hid (∀ j, j < k → disOk p (l.getD j dis0) = true)) (fun i => n - (intOf i).toNat)
  case atStart => exact ⟨0, Nat.zero_le _, rfl, Lib.hid fun j hj => absurd hj (by omega)⟩
  case round =>
    obtain ⟨k, hk, rfl, hm⟩ := hrel
    by_cases hlt : k < n
    · have hki : (k : Int) < (n : Int) := by omega
      have h0i : (0 : Int) ≤ (k : Int) := by omega
      obtain ⟨b, off, rfl, hBb, d0, d1, d2, d3⟩ := Sl.at4 HL.out (show k < l.length by rw [HNL.out]; exact hlt)
      obtain ⟨d, hd⟩ : ∃ d, l.getD k dis0 = d := ⟨_, rfl⟩
      have hdo := HD0.out d
      rw [hd] at d0 d1 d2 d3
      have HOK : Hid (disOk p d = true → ∀ j, j < k + 1 → disOk p (l.getD j dis0) = true) := Lib.hid fun h j hj => if e : j = k then by rw [e, hd]; exact h else hm.out j (by omega)
      have HNO : Hid (disOk p d = false → dissB p l = false) := Lib.hid fun h => by rw [HR.out, allN_false hlt (by rw [hd]; exact h)]; simp
      obtain ⟨at_, kind, of_, rate⟩ := d
      simp only [disC] at d0 d1 d2 d3 hdo
      have HDO := Lib.hid hdo
      clear hd hdo
      by_cases k1 : kind = 1
      · subst k1
        go_wp2_with (go_at_call 76; refine (in_any _ _ _ _).mono ?_; rintro e w' ⟨rfl, rfl⟩)
        all_goals first
          | (go_ret; refine ⟨ret_bool (HNO.out (by rw [HDO.out]; simp_all)).symm, HB.out⟩)
          | (go_round
             case rel => exact ⟨k + 1, by omega, by go_num, Lib.hid (HOK.out (by rw [HDO.out]; simp_all))⟩
             case measure => simp [intOf]; try omega)
      · go_wp2_with (go_at_call 76; refine (in_any _ _ _ _).mono ?_; rintro e w' ⟨rfl, rfl⟩)
        all_goals first
          | (go_ret; refine ⟨ret_bool (HNO.out (by rw [HDO.out]; simp_all)).symm, HB.out⟩)
          | (go_round
             case rel => exact ⟨k + 1, by omega, by go_num, Lib.hid (HOK.out (by rw [HDO.out]; simp_all))⟩
             case measure => simp [intOf]; try omega)
    · obtain rfl : k = n := by omega
      have HALL := Lib.hid (show dissB p l = decide ((k : Int) ≤ 64) by rw [HR.out, allN_true hm.out]; simp)
      go_wp2_with fail
      all_goals (go_ret; exact ⟨ret_bool (by rw [HALL.out]; try simp_all), HB.out⟩)
end Go.Proofs.YtogobjmmgjfjjaaGreat
/- What is proved: how a state is kept in a function's own box among boxes of any kind; what is left by the operations of 's, _ = f(p, s, ..)'. Conditions: those that each lemma states. -/
namespace Go.Proofs.YtogobjmmgjfjjaaGreat
open Go.RowKit

/-- The blocks in which no list of a state lies, and q boxes from lo on besides. -/
@[reducible] def excB (E : Exc) (lo q : Nat) : Exc := ⟨fun b => E.ex b ∨ (lo ≤ b ∧ b < lo + q), max E.top (lo + q), fun b hb => by
  rcases hb with hb | hb
  · have := E.lt b hb; omega
  · omega⟩
theorem SlO.less {E : Exc} {w : World} {D : Nat → Prop} {A : Option Addr} {n : Nat} {f : Nat → Nat → Value} {lo q : Nat} (hs : @SlO (excB E lo q) w D A n f) : @SlO E w D A n f :=
  @SlO.mk E w D A n f (@SlO.sl (excB E lo q) _ _ _ _ _ hs) (by have h : max E.top (lo + q) ≤ w.heap.size := @SlO.top (excB E lo q) _ _ _ _ _ hs; show E.top ≤ _; omega) (fun b off hn e hx => @SlO.out (excB E lo q) _ _ _ _ _ hs b off hn e (Or.inl hx))
theorem RefAt.less {E : Exc} {w : World} {B lo q : Nat} {R : RX} {S : Sys} (h : @RefAt (excB E lo q) w B R S) : @RefAt E w B R S := fun k hk => SlO.less (h k hk)
/-- At a function's entry: the lists are older than its boxes. -/
theorem RefAt.boxed {E : Exc} {w W : World} {q : Nat} {R : RX} {S : Sys} (h : @RefAt E w w.heap.size R S) (hb : Below w.heap.size w W) (hz : w.heap.size + q ≤ W.heap.size) : @RefAt (excB E w.heap.size q) W W.heap.size R S := fun k hk => by
  have h1 := h k hk
  have h2 := @SlO.sl E _ _ _ _ _ h1
  have h3 : E.top ≤ w.heap.size := @SlO.top E _ _ _ _ _ h1
  refine @SlO.mk (excB E w.heap.size q) W _ _ _ _ ((h2.keep fun b hb' => hb.block b hb').mono fun b hb' => ?_) (by show max E.top (w.heap.size + q) ≤ _; omega) (fun b off hn e hx => ?_)
  · have hb2 : b < w.heap.size := hb'; omega
  · rcases hx with hx | hx
    · exact @SlO.out E _ _ _ _ _ h1 b off hn e hx
    · obtain ⟨b', off', e', hD, _⟩ := h2.2 hn
      rw [e] at e'
      have e2 : b = b' := by injection e' with e'; injection e'
      have hD' : b < w.heap.size := by rw [e2]; exact hD
      omega
/-- A store into one of the boxes. -/
theorem RefAt.stay {E : Exc} {w1 w2 : World} {lo q g : Nat} {R : RX} {S : Sys} (h : @RefAt (excB E lo q) w1 w1.heap.size R S) (ho : Only g w1 w2) (h1 : lo ≤ g) (h2 : g < lo + q) : @RefAt (excB E lo q) w2 w2.heap.size R S := fun k hk => by
  have g1 := h k hk
  have g2 := @SlO.sl (excB E lo q) _ _ _ _ _ g1
  refine @SlO.mk (excB E lo q) w2 _ _ _ _ ⟨g2.1, fun hn => ?_⟩ (by rw [ho.size]; exact @SlO.top (excB E lo q) _ _ _ _ _ g1) (@SlO.out (excB E lo q) _ _ _ _ _ g1)
  obtain ⟨b, off, e, hD, hc⟩ := g2.2 hn
  have hne : b ≠ g := fun hh => @SlO.out (excB E lo q) _ _ _ _ _ g1 b off hn e (Or.inr (by omega))
  exact ⟨b, off, e, by rw [ho.size]; exact hD, fun i hi j hj => (World.cell?_of_block (ho.block b hne)).trans (hc i hi j hj)⟩

/-- A state of T in the box g of a function whose q boxes lie from lo on; other boxes. -/
structure StQ (E : Exc) (w0 : World) (lo q g : Nat) (p : PlantD) (Ex : List (Nat × TypeId × Array Value)) (wr : World) (T : Sys) : Prop where
  st : ∃ R, Bk wr g 53 (RA p R) ∧ @RefAt (excB E lo q) wr wr.heap.size R T
  tp : T.p = p
  below : Below lo w0 wr
  glo : lo ≤ g
  ghi : g < lo + q
  size : lo + q ≤ wr.heap.size
  ex : ∀ e ∈ Ex, e.1 ≠ g ∧ Bk wr e.1 e.2.1 e.2.2
theorem StQ.later {E : Exc} {w0 wr w1 : World} {lo q g : Nat} {p : PlantD} {Ex : List (Nat × TypeId × Array Value)} {T : Sys} (h : StQ E w0 lo q g p Ex wr T) (hb : Below wr.heap.size wr w1) : StQ E w0 lo q g p Ex w1 T := by
  obtain ⟨R, h1, h2⟩ := h.st
  have hs := h.size
  letI : Exc := excB E lo q
  exact ⟨⟨R, h1.below hb h1.lt, (RefAt.below h2 hb).mono hb.size⟩, h.tp, h.below.trans (hb.mono (by omega)), h.glo, h.ghi, by have := hb.size; omega, fun e he => ⟨(h.ex e he).1, (h.ex e he).2.below hb (h.ex e he).2.lt⟩⟩
theorem StQ.store {E : Exc} {w0 wr w1 w2 : World} {lo q g : Nat} {p : PlantD} {Ex : List (Nat × TypeId × Array Value)} {T T' : Sys} {R' : RX} (h : StQ E w0 lo q g p Ex wr T) (hb : Below wr.heap.size wr w1) (hr : @RefAt (excB E lo q) w1 w1.heap.size R' T') (hp : T'.p = p)
    (hk : Bk w2 g 53 (RA p R')) (ho : Only g w1 w2) : StQ E w0 lo q g p Ex w2 T' := by
  have h1 := h.later hb
  exact ⟨⟨R', hk, hr.stay ho h.glo h.ghi⟩, hp, h1.below.trans (ho.below h.glo), h.glo, h.ghi, by rw [ho.size]; exact h1.size, fun e he => ⟨(h1.ex e he).1, (h1.ex e he).2.only ho (h1.ex e he).1⟩⟩

/-- What an operation does to the world: m stores a state into the box, the others make memory. -/
def QE (E : Exc) (lo q : Nat) (T : Sys) (m j : Nat) (w1 w2 : World) : Prop :=
  (j ≠ m → Below w1.heap.size w1 w2) ∧ (j = m → ∀ R', @RefAt (excB E lo q) w1 w1.heap.size R' T → @RefAt (excB E lo q) w2 w2.heap.size R' T)
/-- What is left by the operations: c the call, s the state taken out of what it handed back. -/
def QR (E : Exc) (lo q : Nat) (p : PlantD) (e : Int) (T : Sys) (c s : Nat) (ix : Nat) (u : Value) (w1 : World) : Prop :=
  (ix = c ∨ ix = c + 1 → ∃ R', u = .tuple #[.agg (RA p R'), .int .i64 e] ∧ @RefAt (excB E lo q) w1 w1.heap.size R' T) ∧ (ix = s → ∃ R', u = .agg (RA p R') ∧ @RefAt (excB E lo q) w1 w1.heap.size R' T)
theorem QR.keep {E : Exc} {lo q : Nat} {p : PlantD} {T : Sys} {w1 w2 : World} {e : Int} {m i j c s : Nat} {u : Value} (h : QR E lo q p e T c s i u w1) (he : QE E lo q T m j w1 w2) : QR E lo q p e T c s i u w2 := by
  letI : Exc := excB E lo q
  obtain ⟨h1, h2⟩ := h
  by_cases hj : j = m
  · have k1 := he.2 hj
    refine ⟨fun e => ?_, fun e => ?_⟩
    · obtain ⟨R', a, b⟩ := h1 e; exact ⟨R', a, k1 R' b⟩
    · obtain ⟨R', a, b⟩ := h2 e; exact ⟨R', a, k1 R' b⟩
  · have hb := he.1 hj
    refine ⟨fun e => ?_, fun e => ?_⟩
    · obtain ⟨R', a, b⟩ := h1 e; exact ⟨R', a, (RefAt.below b hb).mono hb.size⟩
    · obtain ⟨R', a, b⟩ := h2 e; exact ⟨R', a, (RefAt.below b hb).mono hb.size⟩
theorem QE.same {E : Exc} {lo q : Nat} {T : Sys} {m : Nat} (w : World) {j : Nat} (hj : j ≠ m) : QE E lo q T m j w w := ⟨fun _ => Below.refl _ _, fun h => absurd h hj⟩
theorem QE.below {E : Exc} {lo q : Nat} {T : Sys} {m : Nat} {w w' : World} {j : Nat} (hj : j ≠ m) (hb : Below w.heap.size w w') : QE E lo q T m j w w' := ⟨fun _ => hb, fun h => absurd h hj⟩
theorem QE.store {E : Exc} {lo q g : Nat} {T : Sys} {m : Nat} {w w' : World} (h1 : lo ≤ g) (h2 : g < lo + q) (ho : Only g w w') : QE E lo q T m m w w' := ⟨fun e => absurd rfl e, fun _ _ hr => hr.stay ho h1 h2⟩
end Go.Proofs.YtogobjmmgjfjjaaGreat
/- What is proved: a contract of the document's wrong. Conditions: the plant, the state, what goes wrong lie in memory; the kinds of what goes wrong are two. -/
namespace Go.Proofs.YtogobjmmgjfjjaaGreat
open Go.RowKit

set_option maxRecDepth 100000 in
set_option maxHeartbeats 8000000 in
theorem refWrong_any [E : Exc] (w : World) (x : PV) (R0 : RX) (S : Sys) (hp : PlantAt w w.heap.size x S.p) (hr : RefAt w w.heap.size R0 S) (ok : SysOk S) (A : Option Addr) (c : Nat) (l : List DisD) (hl : DisAt w w.heap.size A l) (hkd : ∀ i, i < l.length → (l.getD i dis0).kind = 0 ∨ (l.getD i dis0).kind = 1) (tick : Int) :
    Calls Tryz.prog 153 #[.agg (plantA x S.p), .agg (SysA R0 S), .slice A l.length c, .int .i64 tick] w (RefOne w (wrongB S l tick)) := by
  obtain ⟨W0, hW⟩ : ∃ W0, W0 = ((w.alloc (.cells (plantA x S.p) 27)).alloc (.cells (SysA R0 S) 53)).alloc (.cells (refA nilR 0 0 0) 53) := ⟨_, rfl⟩
  have hbW : Below w.heap.size w W0 := by rw [hW]; exact (((Below.refl _ _).alloc (Nat.le_refl _) _).alloc (by simp) _).alloc (by simp; omega) _
  have hWs : W0.heap.size = w.heap.size + 3 := by rw [hW]; simp
  have hb0 : Bk W0 w.heap.size 27 (plantA x S.p) := by rw [hW]; exact ((Bk.new _ _ _).alloc _).alloc _
  have hb1 : Bk W0 (w.heap.size + 1) 53 (SysA R0 S) := by rw [hW]; exact (Bk.newAt _ _ _ _ (by simp)).alloc _
  have hb2 : Bk W0 (w.heap.size + 1 + 1) 53 (refA nilR 0 0 0) := by rw [hW]; exact Bk.newAt _ _ _ _ (by simp)
  obtain ⟨p, hSp⟩ : ∃ p, S.p = p := ⟨_, rfl⟩
  obtain ⟨Ex, hEx⟩ : ∃ Ex : List (Nat × TypeId × Array Value), Ex = [(w.heap.size, 27, plantA x p), (w.heap.size + 1 + 1, 53, refA nilR 0 0 0)] := ⟨_, rfl⟩
  have HS0 : Hid (StQ E W0 w.heap.size 3 (w.heap.size + 1) p Ex W0 S) := Lib.hid ⟨⟨R0, by rw [← RA_of hSp]; exact hb1, RefAt.boxed hr hbW (by omega)⟩, hSp, Below.refl _ _, by omega, by omega, by omega, fun e he => by
    rw [hEx] at he
    simp only [List.mem_cons, List.not_mem_nil, or_false] at he
    rcases he with rfl | rfl
    · exact ⟨by show w.heap.size ≠ _; omega, by rw [← hSp]; exact hb0⟩
    · exact ⟨by show w.heap.size + 1 + 1 ≠ _; omega, hb2⟩⟩
  have HPB : Hid (∀ z T, StQ E W0 w.heap.size 3 (w.heap.size + 1) p Ex z T → Bk z w.heap.size 27 (plantA x p) ∧ Bk z (w.heap.size + 1 + 1) 53 (refA nilR 0 0 0)) := Lib.hid fun z T h =>
    ⟨(h.ex (w.heap.size, 27, plantA x p) (by rw [hEx]; simp)).2, (h.ex (w.heap.size + 1 + 1, 53, refA nilR 0 0 0) (by rw [hEx]; simp)).2⟩
  have HL : Hid (∀ z, Below w.heap.size W0 z → DisAt z w.heap.size A l) := Lib.hid fun z hz => Sl.below (Sl.below hl hbW) hz
  have HP : Hid (∀ z, Below w.heap.size W0 z → PlantAt z w.heap.size x p) := Lib.hid fun z hz => by rw [← hSp]; exact (hp.below hbW).below hz
  have hsh := short_of ok.valid
  rw [hSp] at hsh
  have HSH := Lib.hid hsh
  have HSP := Lib.hid hSp
  have HB := Lib.hid hbW
  have HKD := Lib.hid hkd
  have HW := Lib.hid hW
  obtain ⟨n, hn⟩ : ∃ n, l.length = n := ⟨_, rfl⟩
  have hn9 : n ≤ 9223372036854775807 := by rw [← hn]; exact hl.1
  have HF := Lib.hid (show wrongB S l tick = wrongK S l tick n by rw [← hn]; rfl)
  rw [hn, hSp]
  rw [RA_of hSp]
  rw [hSp, RA_of hSp] at HW
  have HN := Lib.hid hn
  simp only [plantA, RA, refA, nilR] at HW
  simp only [plantA, RA, refA]
  clear hp hr ok hl hkd hW hbW hWs hb0 hb1 hb2 hSp hEx hsh hn
  go_enter Tryz.func153, Tryz.ntmps153
  go_wp2_with fail
  rw [← HW.out]
  go_loopw [9] (fun i wr => ∃ k : Nat, k ≤ n ∧ i = .int .i64 k ∧ Hid (StQ E W0 w.heap.size 3 (w.heap.size + 1) p Ex wr (wrongK S l tick k))) (fun i _ => n - (intOf i).toNat)
  case atStart => exact ⟨0, Nat.zero_le _, rfl, HS0⟩
  case round =>
    obtain ⟨k, hk, rfl, hsq⟩ := hrel
    by_cases hlt : k < n
    · have hki : (k : Int) < (n : Int) := by omega
      have h0i : (0 : Int) ≤ (k : Int) := by omega
      have hlt' : k < l.length := by rw [HN.out]; exact hlt
      obtain ⟨b, off, rfl, hBb, d0, d1, d2, d3⟩ := Sl.at4 (HL.out wr hsq.out.below) hlt'
      obtain ⟨d, hd⟩ : ∃ d, l.getD k dis0 = d := ⟨_, rfl⟩
      have hw1 : wrongK S l tick (k + 1) = wrong1 (wrongK S l tick k) d tick := by rw [← hd]; rfl
      have hkd := HKD.out k hlt'
      rw [hd] at d0 d1 d2 d3 hkd
      obtain ⟨at_, kind, of_, rate⟩ := d
      simp only [disC] at d0 d1 d2 d3 hkd
      have HDC : Hid (∀ z, Below w.heap.size W0 z → z.cell? ⟨b, off + k * 4, none⟩ = some (.int .i64 at_) ∧ z.cell? ⟨b, off + k * 4 + 1, none⟩ = some (.int .i64 kind) ∧ z.cell? ⟨b, off + k * 4 + 2, none⟩ = some (.int .i64 of_) ∧ z.cell? ⟨b, off + k * 4 + 3, none⟩ = some (.int .i64 rate)) := Lib.hid fun z hz => by
        obtain ⟨b', off', hA', _, g0, g1, g2, g3⟩ := Sl.at4 (HL.out z hz) hlt'
        rw [hd] at g0 g1 g2 g3
        obtain ⟨rfl, rfl⟩ : b = b' ∧ off = off' := by simpa using hA'
        exact ⟨g0, g1, g2, g3⟩
      obtain ⟨T', hT'⟩ : ∃ T', wrongK S l tick (k + 1) = T' := ⟨_, rfl⟩
      have hTp : T'.p = p := by rw [← hT', (wrongK_keeps S l tick (k + 1)).1]; exact HSP.out
      obtain ⟨R, r1, r2⟩ := hsq.out.st
      have hsz := hsq.out.size
      have hTp0 := hsq.out.tp
      have HPK : Hid (∀ z, Below wr.heap.size wr z → Bk z w.heap.size 27 (plantA x p)) := Lib.hid fun z hz => (HPB.out z _ (hsq.out.later hz)).1
      have HBSX : Hid (∀ z, Below wr.heap.size wr z → Bk z (w.heap.size + 1) 53 (RA p R)) := Lib.hid fun z hz => r1.below hz r1.lt
      have HC2 : Hid (∀ z, Below wr.heap.size wr z → z.cell? ⟨b, off + k * 4 + 2, none⟩ = some (.int .i64 of_)) := Lib.hid fun z hz => (HDC.out z (hsq.out.below.trans (hz.mono (by omega)))).2.2.1
      have HC3 : Hid (∀ z, Below wr.heap.size wr z → z.cell? ⟨b, off + k * 4 + 3, none⟩ = some (.int .i64 rate)) := Lib.hid fun z hz => (HDC.out z (hsq.out.below.trans (hz.mono (by omega)))).2.2.2
      have HSTO : Hid (∀ w1, Below wr.heap.size wr w1 → ∀ R', @RefAt (excB E w.heap.size 3) w1 w1.heap.size R' T' → ∀ w2, Bk w2 (w.heap.size + 1) 53 (RA p R') → Only (w.heap.size + 1) w1 w2 → StQ E W0 w.heap.size 3 (w.heap.size + 1) p Ex w2 T') := Lib.hid fun w1 h1 R' hr w2 h2 h3 => hsq.out.store h1 hr hTp h2 h3
      have HR2 := Lib.hid r2
      have HARG : Hid (∀ z, Below wr.heap.size wr z → PlantAt z z.heap.size x p ∧ @RefAt (excB E w.heap.size 3) z z.heap.size R (wrongK S l tick k)) := Lib.hid fun z hz =>
        ⟨(HP.out z (hsq.out.below.trans (hz.mono (by omega)))).mono (by have := hz.size; omega), by
          letI : Exc := excB E w.heap.size 3
          exact (RefAt.below r2 hz).mono hz.size⟩
      have HT0 := Lib.hid hTp0
      have HTP := Lib.hid hTp
      have HT' := Lib.hid hT'
      have HW1 := Lib.hid hw1
      clear hd hw1 r1 r2 hsz hTp0 hTp hT'
      by_cases e1 : at_ = tick
      · subst e1
        rcases hkd with rfl | rfl
        · obtain ⟨er, her⟩ : ∃ er, (stickB (wrongK S l at_ k) of_ true).1 = er := ⟨_, rfl⟩
          have HCALL : Hid (∀ z, Below wr.heap.size wr z → Calls Tryz.prog 81 #[.agg (plantA x p), .agg (RA p R), .int .i64 of_, .bool true] z fun e w' => ∃ R', e = .returned (.tuple #[.agg (RA p R'), .int .i64 er]) ∧ @RefAt (excB E w.heap.size 3) w' w'.heap.size R' T' ∧ Below z.heap.size z w') := Lib.hid fun z hz => by
            obtain ⟨a1, a2⟩ := HARG.out z hz
            have h := @refStick_any (excB E w.heap.size 3) z x R (wrongK S l at_ k) (by rw [HT0.out]; exact a1) a2 (by rw [HT0.out]; exact HSH.out) of_ true
            rw [HT0.out, RA_of HT0.out, her, show (stickB (wrongK S l at_ k) of_ true).2 = T' by rw [← HT'.out, HW1.out]; unfold wrong1; rw [if_pos rfl, if_pos rfl]] at h
            refine h.mono ?_
            rintro e w' ⟨R', rfl, h1, h2⟩
            exact ⟨R', by rw [RA_of HTP.out], h1, h2⟩
          clear her
          go_wp2_with fail
          refine wp_region_stepsM (by kernel_rfl) (by kernel_rfl) 11 (by decide) (fun bq w1 => if bq = true then StQ E W0 w.heap.size 3 (w.heap.size + 1) p Ex w1 T' else Below wr.heap.size wr w1) (QE E w.heap.size 3 T' 11)
            (fun ix u d w1 => (match ix with
              | 0 => u = .agg (plantA x p)
              | 1 => u = .agg (RA p R)
              | 2 => u = .slice (some ⟨b, off, none⟩) n c
              | 3 => u = .int .i64 k
              | 4 => u = .pointer (some ⟨b, off + k * 4, none⟩)
              | 5 => u = .pointer (some ⟨b, off + k * 4 + 2, none⟩)
              | 6 => u = .int .i64 of_
              | 7 => True
              | 8 => True
              | 9 => True
              | 10 => True
              | _ => True) ∧ QR E w.heap.size 3 p er T' 7 9 ix u w1) (Below.refl _ _).drew (fun i j _ _ u d w1 w2 ⟨hr1, hr2⟩ he => ⟨hr1, hr2.keep he⟩) ?_ ?_
          · refine ⟨?_, ?_, ?_, ?_, ?_, ?_, ?_, ?_, ?_, ?_, ?_, ?_, trivial⟩
            · intro a w1 vs K bq Hb HJ HK HD HN kk
              obtain rfl : bq = false := by cases bq with | false => rfl | true => exact absurd (Hb rfl).2 (by decide)
              have HJ' : Below wr.heap.size wr w1 := HJ
              have e4 := HK 4 (by decide)
              exact wpo_loadS 27 (.tmp 4) rfl w.heap.size 0 (by simpa [Act.eval] using e4) (plantA x p) _ (fun j u hj => by rw [Nat.zero_add]; exact ((HPK.out w1 HJ').cell j).trans hj) und_plant rfl info_plant (kk _ _ (by simp) HJ (QE.same _ (by omega)) ⟨rfl, ⟨fun e => by omega, fun e => by omega⟩⟩)
            · intro a w1 vs K bq Hb HJ HK HD HN kk
              obtain rfl : bq = false := by cases bq with | false => rfl | true => exact absurd (Hb rfl).2 (by decide)
              have HJ' : Below wr.heap.size wr w1 := HJ
              have e5 := HK 5 (by decide)
              exact wpo_loadS 53 (.tmp 5) rfl (w.heap.size + 1) 0 (by simpa [Act.eval] using e5) (RA p R) _ (fun j u hj => by rw [Nat.zero_add]; exact ((HBSX.out w1 HJ').cell j).trans hj) und_state rfl info_state (kk _ _ (by simp) HJ (QE.same _ (by omega)) ⟨rfl, ⟨fun e => by omega, fun e => by omega⟩⟩)
            · intro a w1 vs K bq Hb HJ HK HD HN kk
              obtain rfl : bq = false := by cases bq with | false => rfl | true => exact absurd (Hb rfl).2 (by decide)
              have HJ' : Below wr.heap.size wr w1 := HJ
              have e2 := HK 2 (by decide)
              go_simp; exact kk _ _ (by simp) HJ (QE.same _ (by omega)) ⟨rfl, ⟨fun e => by omega, fun e => by omega⟩⟩
            · intro a w1 vs K bq Hb HJ HK HD HN kk
              obtain rfl : bq = false := by cases bq with | false => rfl | true => exact absurd (Hb rfl).2 (by decide)
              have HJ' : Below wr.heap.size wr w1 := HJ
              have e9 := HK 9 (by decide)
              go_simp; exact kk _ _ (by simp) HJ (QE.same _ (by omega)) ⟨rfl, ⟨fun e => by omega, fun e => by omega⟩⟩
            · intro a w1 vs K bq Hb HJ HK HD HN kk
              obtain rfl : bq = false := by cases bq with | false => rfl | true => exact absurd (Hb rfl).2 (by decide)
              have HJ' : Below wr.heap.size wr w1 := HJ
              have e34 := (HD 2 _ 34 rfl rfl rfl).1.trans (HD 2 _ 34 rfl rfl rfl).2.1
              have e35 := (HD 3 _ 35 rfl rfl rfl).1.trans (HD 3 _ 35 rfl rfl rfl).2.1
              go_simp; exact kk _ _ (by simp) HJ (QE.same _ (by omega)) ⟨rfl, ⟨fun e => by omega, fun e => by omega⟩⟩
            · intro a w1 vs K bq Hb HJ HK HD HN kk
              obtain rfl : bq = false := by cases bq with | false => rfl | true => exact absurd (Hb rfl).2 (by decide)
              have HJ' : Below wr.heap.size wr w1 := HJ
              have e36 := (HD 4 _ 36 rfl rfl rfl).1.trans (HD 4 _ 36 rfl rfl rfl).2.1
              go_simp; exact kk _ _ (by simp) HJ (QE.same _ (by omega)) ⟨rfl, ⟨fun e => by omega, fun e => by omega⟩⟩
            · intro a w1 vs K bq Hb HJ HK HD HN kk
              obtain rfl : bq = false := by cases bq with | false => rfl | true => exact absurd (Hb rfl).2 (by decide)
              have HJ' : Below wr.heap.size wr w1 := HJ
              have e37 := (HD 5 _ 37 rfl rfl rfl).1.trans (HD 5 _ 37 rfl rfl rfl).2.1
              have ca := HC2.out w1 HJ'
              go_simp; exact kk _ _ (by simp) HJ (QE.same _ (by omega)) ⟨rfl, ⟨fun e => by omega, fun e => by omega⟩⟩
            · intro a w1 vs K bq Hb HJ HK HD HN kk
              obtain rfl : bq = false := by cases bq with | false => rfl | true => exact absurd (Hb rfl).2 (by decide)
              have HJ' : Below wr.heap.size wr w1 := HJ
              have e32 := (HD 0 _ 32 rfl rfl rfl).1.trans (HD 0 _ 32 rfl rfl rfl).2.1
              have e33 := (HD 1 _ 33 rfl rfl rfl).1.trans (HD 1 _ 33 rfl rfl rfl).2.1
              have e38 := (HD 6 _ 38 rfl rfl rfl).1.trans (HD 6 _ 38 rfl rfl rfl).2.1
              exact wpo_call 81 _ _ rfl #[.agg (plantA x p), .agg (RA p R), .int .i64 of_, .bool true] (by simp [Act.eval, e32, e33, e38]) (fun args w => by kernel_rfl)
                ((HCALL.out w1 HJ').mono fun e w' ⟨R', he, hr, hb⟩ => ⟨_, he, kk _ _ (by simp) (HJ'.trans (hb.mono HJ'.size)) (QE.below (by omega) hb) ⟨trivial, ⟨fun _ => ⟨R', rfl, hr⟩, fun e => by omega⟩⟩⟩)
            · intro a w1 vs K bq Hb HJ HK HD HN kk
              obtain rfl : bq = false := by cases bq with | false => rfl | true => exact absurd (Hb rfl).2 (by decide)
              have HJ' : Below wr.heap.size wr w1 := HJ
              obtain ⟨q6, r6⟩ := HD 7 _ 39 rfl rfl rfl
              obtain ⟨R', x1, x2⟩ := r6.2.1 (Or.inl rfl)
              exact wpo_move (.tmp 39) _ (Or.inl rfl) (by simpa [Act.eval] using q6.trans x1) (kk _ _ (by simp) HJ' (QE.same _ (by omega)) ⟨trivial, ⟨fun _ => ⟨_, rfl, x2⟩, fun e => by omega⟩⟩)
            · intro a w1 vs K bq Hb HJ HK HD HN kk
              obtain rfl : bq = false := by cases bq with | false => rfl | true => exact absurd (Hb rfl).2 (by decide)
              have HJ' : Below wr.heap.size wr w1 := HJ
              obtain ⟨q7, r7⟩ := HD 8 _ 31 rfl rfl rfl
              obtain ⟨R', x1, x2⟩ := r7.2.1 (Or.inr rfl)
              have e31 := q7.trans x1
              clear x1 q7 r7
              go_simp; exact kk _ _ (by simp) HJ' (QE.same _ (by omega)) ⟨trivial, ⟨fun e => by omega, fun _ => ⟨_, rfl, x2⟩⟩⟩
            · intro a w1 vs K bq Hb HJ HK HD HN kk
              obtain ⟨q7, r7⟩ := HD 8 _ 31 rfl rfl rfl
              obtain ⟨R', x1, x2⟩ := r7.2.1 (Or.inr rfl)
              have e31 := q7.trans x1
              clear x1 x2 q7 r7
              go_simp; exact kk _ _ (by simp) (by simpa using HJ) (QE.same _ (by omega)) ⟨trivial, ⟨fun e => by omega, fun e => by omega⟩⟩
            · intro a w1 vs K bq Hb HJ HK HD HN kk
              obtain rfl : bq = false := by cases bq with | false => rfl | true => exact absurd rfl (Hb rfl).1
              have HJ' : Below wr.heap.size wr w1 := HJ
              have e5 := HK 5 (by decide)
              obtain ⟨q8, r8⟩ := HD 9 _ 40 rfl rfl rfl
              obtain ⟨R', y1, y2⟩ := r8.2.2 rfl
              exact wpo_storeS 53 (.tmp 5) (.tmp 40) rfl rfl (w.heap.size + 1) 0 (by simpa [Act.eval] using e5) (RA p R') (by simpa [Act.eval] using q8.trans y1) 53 (RA p R) (HBSX.out w1 HJ') (by rw [RA_size, RA_size]; omega) (RA_one _ _) info_state fun w2 hk2 ho2 => by
                have hk3 : Bk w2 (w.heap.size + 1) 53 (RA p R') := by rw [RA_spl] at hk2; exact hk2
                exact kk undef _ (by simp) (HSTO.out w1 HJ' R' y2 w2 hk3 ho2) (QE.store (by omega) (by omega) ho2) ⟨trivial, ⟨fun e => by omega, fun e => by omega⟩⟩
          · intro vs w6 hw6 hrr
            have HS6 : Hid (StQ E W0 w.heap.size 3 (w.heap.size + 1) p Ex w6 T') := Lib.hid hw6
            clear hrr hw6 d0 d1 d2 d3
            simp only [putAll, Act.put, List.setIfInBounds_toArray, List.set_cons_zero, List.set_cons_succ]
            obtain ⟨d0, d1, d2, d3⟩ := HDC.out w6 HS6.out.below
            go_wp2_with fail
            go_roundw
            case rel => exact ⟨k + 1, by omega, by go_num, by rw [HT'.out]; exact HS6⟩
            case measure => simp [intOf]; omega
        · obtain ⟨er, her⟩ : ∃ er, (leakB (wrongK S l at_ k) of_ rate).1 = er := ⟨_, rfl⟩
          have HCALL : Hid (∀ z, Below wr.heap.size wr z → Calls Tryz.prog 82 #[.agg (plantA x p), .agg (RA p R), .int .i64 of_, .int .i64 rate] z fun e w' => ∃ R', e = .returned (.tuple #[.agg (RA p R'), .int .i64 er]) ∧ @RefAt (excB E w.heap.size 3) w' w'.heap.size R' T' ∧ Below z.heap.size z w') := Lib.hid fun z hz => by
            obtain ⟨a1, a2⟩ := HARG.out z hz
            have h := @refLeak_any (excB E w.heap.size 3) z x R (wrongK S l at_ k) (by rw [HT0.out]; exact a1) a2 (by rw [HT0.out]; exact HSH.out) of_ rate
            rw [HT0.out, RA_of HT0.out, her, show (leakB (wrongK S l at_ k) of_ rate).2 = T' by rw [← HT'.out, HW1.out]; unfold wrong1; rw [if_pos rfl, if_neg (show ¬ (1 : Int) = 0 by decide)]] at h
            refine h.mono ?_
            rintro e w' ⟨R', rfl, h1, h2⟩
            exact ⟨R', by rw [RA_of HTP.out], h1, h2⟩
          clear her
          go_wp2_with fail
          refine wp_region_stepsM (by kernel_rfl) (by kernel_rfl) 16 (by decide) (fun bq w1 => if bq = true then StQ E W0 w.heap.size 3 (w.heap.size + 1) p Ex w1 T' else Below wr.heap.size wr w1) (QE E w.heap.size 3 T' 16)
            (fun ix u d w1 => (match ix with
              | 0 => u = .agg (plantA x p)
              | 1 => u = .agg (RA p R)
              | 2 => u = .slice (some ⟨b, off, none⟩) n c
              | 3 => u = .int .i64 k
              | 4 => u = .pointer (some ⟨b, off + k * 4, none⟩)
              | 5 => u = .pointer (some ⟨b, off + k * 4 + 2, none⟩)
              | 6 => u = .int .i64 of_
              | 7 => u = .slice (some ⟨b, off, none⟩) n c
              | 8 => u = .int .i64 k
              | 9 => u = .pointer (some ⟨b, off + k * 4, none⟩)
              | 10 => u = .pointer (some ⟨b, off + k * 4 + 3, none⟩)
              | 11 => u = .int .i64 rate
              | 12 => True
              | 13 => True
              | 14 => True
              | 15 => True
              | _ => True) ∧ QR E w.heap.size 3 p er T' 12 14 ix u w1) (Below.refl _ _).drew (fun i j _ _ u d w1 w2 ⟨hr1, hr2⟩ he => ⟨hr1, hr2.keep he⟩) ?_ ?_
          · refine ⟨?_, ?_, ?_, ?_, ?_, ?_, ?_, ?_, ?_, ?_, ?_, ?_, ?_, ?_, ?_, ?_, ?_, trivial⟩
            · intro a w1 vs K bq Hb HJ HK HD HN kk
              obtain rfl : bq = false := by cases bq with | false => rfl | true => exact absurd (Hb rfl).2 (by decide)
              have HJ' : Below wr.heap.size wr w1 := HJ
              have e4 := HK 4 (by decide)
              exact wpo_loadS 27 (.tmp 4) rfl w.heap.size 0 (by simpa [Act.eval] using e4) (plantA x p) _ (fun j u hj => by rw [Nat.zero_add]; exact ((HPK.out w1 HJ').cell j).trans hj) und_plant rfl info_plant (kk _ _ (by simp) HJ (QE.same _ (by omega)) ⟨rfl, ⟨fun e => by omega, fun e => by omega⟩⟩)
            · intro a w1 vs K bq Hb HJ HK HD HN kk
              obtain rfl : bq = false := by cases bq with | false => rfl | true => exact absurd (Hb rfl).2 (by decide)
              have HJ' : Below wr.heap.size wr w1 := HJ
              have e5 := HK 5 (by decide)
              exact wpo_loadS 53 (.tmp 5) rfl (w.heap.size + 1) 0 (by simpa [Act.eval] using e5) (RA p R) _ (fun j u hj => by rw [Nat.zero_add]; exact ((HBSX.out w1 HJ').cell j).trans hj) und_state rfl info_state (kk _ _ (by simp) HJ (QE.same _ (by omega)) ⟨rfl, ⟨fun e => by omega, fun e => by omega⟩⟩)
            · intro a w1 vs K bq Hb HJ HK HD HN kk
              obtain rfl : bq = false := by cases bq with | false => rfl | true => exact absurd (Hb rfl).2 (by decide)
              have HJ' : Below wr.heap.size wr w1 := HJ
              have e2 := HK 2 (by decide)
              go_simp; exact kk _ _ (by simp) HJ (QE.same _ (by omega)) ⟨rfl, ⟨fun e => by omega, fun e => by omega⟩⟩
            · intro a w1 vs K bq Hb HJ HK HD HN kk
              obtain rfl : bq = false := by cases bq with | false => rfl | true => exact absurd (Hb rfl).2 (by decide)
              have HJ' : Below wr.heap.size wr w1 := HJ
              have e9 := HK 9 (by decide)
              go_simp; exact kk _ _ (by simp) HJ (QE.same _ (by omega)) ⟨rfl, ⟨fun e => by omega, fun e => by omega⟩⟩
            · intro a w1 vs K bq Hb HJ HK HD HN kk
              obtain rfl : bq = false := by cases bq with | false => rfl | true => exact absurd (Hb rfl).2 (by decide)
              have HJ' : Below wr.heap.size wr w1 := HJ
              have e60 := (HD 2 _ 60 rfl rfl rfl).1.trans (HD 2 _ 60 rfl rfl rfl).2.1
              have e61 := (HD 3 _ 61 rfl rfl rfl).1.trans (HD 3 _ 61 rfl rfl rfl).2.1
              go_simp; exact kk _ _ (by simp) HJ (QE.same _ (by omega)) ⟨rfl, ⟨fun e => by omega, fun e => by omega⟩⟩
            · intro a w1 vs K bq Hb HJ HK HD HN kk
              obtain rfl : bq = false := by cases bq with | false => rfl | true => exact absurd (Hb rfl).2 (by decide)
              have HJ' : Below wr.heap.size wr w1 := HJ
              have e62 := (HD 4 _ 62 rfl rfl rfl).1.trans (HD 4 _ 62 rfl rfl rfl).2.1
              go_simp; exact kk _ _ (by simp) HJ (QE.same _ (by omega)) ⟨rfl, ⟨fun e => by omega, fun e => by omega⟩⟩
            · intro a w1 vs K bq Hb HJ HK HD HN kk
              obtain rfl : bq = false := by cases bq with | false => rfl | true => exact absurd (Hb rfl).2 (by decide)
              have HJ' : Below wr.heap.size wr w1 := HJ
              have e63 := (HD 5 _ 63 rfl rfl rfl).1.trans (HD 5 _ 63 rfl rfl rfl).2.1
              have ca := HC2.out w1 HJ'
              go_simp; exact kk _ _ (by simp) HJ (QE.same _ (by omega)) ⟨rfl, ⟨fun e => by omega, fun e => by omega⟩⟩
            · intro a w1 vs K bq Hb HJ HK HD HN kk
              obtain rfl : bq = false := by cases bq with | false => rfl | true => exact absurd (Hb rfl).2 (by decide)
              have HJ' : Below wr.heap.size wr w1 := HJ
              have e2 := HK 2 (by decide)
              go_simp; exact kk _ _ (by simp) HJ (QE.same _ (by omega)) ⟨rfl, ⟨fun e => by omega, fun e => by omega⟩⟩
            · intro a w1 vs K bq Hb HJ HK HD HN kk
              obtain rfl : bq = false := by cases bq with | false => rfl | true => exact absurd (Hb rfl).2 (by decide)
              have HJ' : Below wr.heap.size wr w1 := HJ
              have e9 := HK 9 (by decide)
              go_simp; exact kk _ _ (by simp) HJ (QE.same _ (by omega)) ⟨rfl, ⟨fun e => by omega, fun e => by omega⟩⟩
            · intro a w1 vs K bq Hb HJ HK HD HN kk
              obtain rfl : bq = false := by cases bq with | false => rfl | true => exact absurd (Hb rfl).2 (by decide)
              have HJ' : Below wr.heap.size wr w1 := HJ
              have e65 := (HD 7 _ 65 rfl rfl rfl).1.trans (HD 7 _ 65 rfl rfl rfl).2.1
              have e66 := (HD 8 _ 66 rfl rfl rfl).1.trans (HD 8 _ 66 rfl rfl rfl).2.1
              go_simp; exact kk _ _ (by simp) HJ (QE.same _ (by omega)) ⟨rfl, ⟨fun e => by omega, fun e => by omega⟩⟩
            · intro a w1 vs K bq Hb HJ HK HD HN kk
              obtain rfl : bq = false := by cases bq with | false => rfl | true => exact absurd (Hb rfl).2 (by decide)
              have HJ' : Below wr.heap.size wr w1 := HJ
              have e67 := (HD 9 _ 67 rfl rfl rfl).1.trans (HD 9 _ 67 rfl rfl rfl).2.1
              go_simp; exact kk _ _ (by simp) HJ (QE.same _ (by omega)) ⟨rfl, ⟨fun e => by omega, fun e => by omega⟩⟩
            · intro a w1 vs K bq Hb HJ HK HD HN kk
              obtain rfl : bq = false := by cases bq with | false => rfl | true => exact absurd (Hb rfl).2 (by decide)
              have HJ' : Below wr.heap.size wr w1 := HJ
              have e68 := (HD 10 _ 68 rfl rfl rfl).1.trans (HD 10 _ 68 rfl rfl rfl).2.1
              have ca := HC3.out w1 HJ'
              go_simp; exact kk _ _ (by simp) HJ (QE.same _ (by omega)) ⟨rfl, ⟨fun e => by omega, fun e => by omega⟩⟩
            · intro a w1 vs K bq Hb HJ HK HD HN kk
              obtain rfl : bq = false := by cases bq with | false => rfl | true => exact absurd (Hb rfl).2 (by decide)
              have HJ' : Below wr.heap.size wr w1 := HJ
              have e58 := (HD 0 _ 58 rfl rfl rfl).1.trans (HD 0 _ 58 rfl rfl rfl).2.1
              have e59 := (HD 1 _ 59 rfl rfl rfl).1.trans (HD 1 _ 59 rfl rfl rfl).2.1
              have e64 := (HD 6 _ 64 rfl rfl rfl).1.trans (HD 6 _ 64 rfl rfl rfl).2.1
              have e69 := (HD 11 _ 69 rfl rfl rfl).1.trans (HD 11 _ 69 rfl rfl rfl).2.1
              exact wpo_call 82 _ _ rfl #[.agg (plantA x p), .agg (RA p R), .int .i64 of_, .int .i64 rate] (by simp [Act.eval, e58, e59, e64, e69]) (fun args w => by kernel_rfl)
                ((HCALL.out w1 HJ').mono fun e w' ⟨R', he, hr, hb⟩ => ⟨_, he, kk _ _ (by simp) (HJ'.trans (hb.mono HJ'.size)) (QE.below (by omega) hb) ⟨trivial, ⟨fun _ => ⟨R', rfl, hr⟩, fun e => by omega⟩⟩⟩)
            · intro a w1 vs K bq Hb HJ HK HD HN kk
              obtain rfl : bq = false := by cases bq with | false => rfl | true => exact absurd (Hb rfl).2 (by decide)
              have HJ' : Below wr.heap.size wr w1 := HJ
              obtain ⟨q6, r6⟩ := HD 12 _ 70 rfl rfl rfl
              obtain ⟨R', x1, x2⟩ := r6.2.1 (Or.inl rfl)
              exact wpo_move (.tmp 70) _ (Or.inl rfl) (by simpa [Act.eval] using q6.trans x1) (kk _ _ (by simp) HJ' (QE.same _ (by omega)) ⟨trivial, ⟨fun _ => ⟨_, rfl, x2⟩, fun e => by omega⟩⟩)
            · intro a w1 vs K bq Hb HJ HK HD HN kk
              obtain rfl : bq = false := by cases bq with | false => rfl | true => exact absurd (Hb rfl).2 (by decide)
              have HJ' : Below wr.heap.size wr w1 := HJ
              obtain ⟨q7, r7⟩ := HD 13 _ 57 rfl rfl rfl
              obtain ⟨R', x1, x2⟩ := r7.2.1 (Or.inr rfl)
              have e57 := q7.trans x1
              clear x1 q7 r7
              go_simp; exact kk _ _ (by simp) HJ' (QE.same _ (by omega)) ⟨trivial, ⟨fun e => by omega, fun _ => ⟨_, rfl, x2⟩⟩⟩
            · intro a w1 vs K bq Hb HJ HK HD HN kk
              obtain ⟨q7, r7⟩ := HD 13 _ 57 rfl rfl rfl
              obtain ⟨R', x1, x2⟩ := r7.2.1 (Or.inr rfl)
              have e57 := q7.trans x1
              clear x1 x2 q7 r7
              go_simp; exact kk _ _ (by simp) (by simpa using HJ) (QE.same _ (by omega)) ⟨trivial, ⟨fun e => by omega, fun e => by omega⟩⟩
            · intro a w1 vs K bq Hb HJ HK HD HN kk
              obtain rfl : bq = false := by cases bq with | false => rfl | true => exact absurd rfl (Hb rfl).1
              have HJ' : Below wr.heap.size wr w1 := HJ
              have e5 := HK 5 (by decide)
              obtain ⟨q8, r8⟩ := HD 14 _ 71 rfl rfl rfl
              obtain ⟨R', y1, y2⟩ := r8.2.2 rfl
              exact wpo_storeS 53 (.tmp 5) (.tmp 71) rfl rfl (w.heap.size + 1) 0 (by simpa [Act.eval] using e5) (RA p R') (by simpa [Act.eval] using q8.trans y1) 53 (RA p R) (HBSX.out w1 HJ') (by rw [RA_size, RA_size]; omega) (RA_one _ _) info_state fun w2 hk2 ho2 => by
                have hk3 : Bk w2 (w.heap.size + 1) 53 (RA p R') := by rw [RA_spl] at hk2; exact hk2
                exact kk undef _ (by simp) (HSTO.out w1 HJ' R' y2 w2 hk3 ho2) (QE.store (by omega) (by omega) ho2) ⟨trivial, ⟨fun e => by omega, fun e => by omega⟩⟩
          · intro vs w6 hw6 hrr
            have HS6 : Hid (StQ E W0 w.heap.size 3 (w.heap.size + 1) p Ex w6 T') := Lib.hid hw6
            clear hrr hw6 d0 d1 d2 d3
            simp only [putAll, Act.put, List.setIfInBounds_toArray, List.set_cons_zero, List.set_cons_succ]
            go_wp2_with fail
            go_roundw
            case rel => exact ⟨k + 1, by omega, by go_num, by rw [HT'.out]; exact HS6⟩
            case measure => simp [intOf]; omega
      · have hK : wrongK S l tick (k + 1) = wrongK S l tick k := by rw [HW1.out]; unfold wrong1; rw [if_neg e1]
        have HK := Lib.hid hK
        clear hK hkd
        go_wp2_with fail
        go_roundw
        case rel => exact ⟨k + 1, by omega, by go_num, by rw [HK.out]; exact hsq⟩
        case measure => simp [intOf]; omega
    · obtain rfl : k = n := by omega
      obtain ⟨R, r1, r2⟩ := hsq.out.st
      have hR1 := Lib.hid r1
      have hrb := Lib.hid (HPB.out wr _ hsq.out).2
      have HR2 := Lib.hid r2
      clear r1 r2
      go_wp2_with (first
        | (refine wpLoadAt rfl 53 _ rfl (w.heap.size + 1) 0 rfl (RA p R) _ (fun j u hj => by rw [Nat.zero_add]; exact (hR1.out.cell j).trans hj) und_state rfl info_state ?_)
        | (refine wpStoreAt rfl rfl 53 _ _ rfl (w.heap.size + 1 + 1) 0 rfl (RA p R) rfl 53 _ hrb.out (by rw [RA_size]; show 0 + 9 ≤ 9; omega) (RA_one _ _) info_state ?_; intro wf hkf hof))
      have hkf' : Bk wf (w.heap.size + 1 + 1) 53 (RA p R) := by rw [splA_all _ _ (by rw [RA_size]; rfl)] at hkf; exact hkf
      refine bodyPost_ret (results_cellS rfl _ _ (w.heap.size + 1 + 1) 53 (RA p R) _ rfl hkf' und_state rfl (by rw [RA_size]; exact info_state)) rfl ?_
      rw [HF.out]
      exact ⟨R, by rw [RA_of hsq.out.tp], (HR2.out.stay hof (by omega) (by omega)).less, (HB.out.trans hsq.out.below).trans (hof.below (by omega))⟩
end Go.Proofs.YtogobjmmgjfjjaaGreat
/- What is proved: what is left by the operations of 'next, e := Order(p, s, o)'; a contract of the document's aborted. Conditions: the plant, the state, the sequence lie in memory. -/
namespace Go.Proofs.YtogobjmmgjfjjaaGreat
open Go.RowKit

theorem RefAt.boxN [E : Exc] {w1 wf : World} {T : Sys} {R R0 : RX} {nb a b c : Nat} (hr : RefAt w1 w1.heap.size R T) (ht : E.top ≤ nb + 1) (hb : Bk w1 nb 53 (refA R0 a b c)) (ho : Only nb w1 wf) : RefAt wf wf.heap.size R T := by
  refine RefB.at_ (RefB.only (lo := nb) (hi := nb + 1) (RefAt.refB (lo := nb) (q := 1) hr ht fun b' g1 g2 j u hu => ?_) ho (by omega) (by omega))
  obtain rfl : b' = nb := by omega
  rw [hb.cell] at hu; exact refA_slices _ _ _ _ _ _ hu
def NE (E : Exc) (lo q : Nat) (T : Sys) (m j : Nat) (w1 w2 : World) : Prop :=
  (j ≠ m → Below w1.heap.size w1 w2) ∧ (j = m → (∀ R', @RefAt (excB E lo q) w1 w1.heap.size R' T → @RefAt (excB E lo q) w2 w2.heap.size R' T) ∧ ∀ nb, Boxy w1 nb → Boxy w2 nb)
def NR (E : Exc) (lo q : Nat) (p : PlantD) (er : Int) (T : Sys) (c s al m : Nat) (wr : World) (ix : Nat) (u : Value) (d : Nat → Value) (w1 : World) : Prop :=
  (ix = c ∨ ix = c + 1 → ∃ R', u = .tuple #[.agg (RA p R'), .int .i64 er] ∧ @RefAt (excB E lo q) w1 w1.heap.size R' T) ∧ (ix = s → ∃ R', u = .agg (RA p R') ∧ @RefAt (excB E lo q) w1 w1.heap.size R' T) ∧
  (ix = al → ∃ nb, u = .pointer (some ⟨nb, 0, none⟩) ∧ wr.heap.size ≤ nb ∧ Boxy w1 nb) ∧
  (ix = m → ∃ R' nb, d al = .pointer (some ⟨nb, 0, none⟩) ∧ d s = .agg (RA p R') ∧ wr.heap.size ≤ nb ∧ Bk w1 nb 53 (RA p R'))
theorem NR.keep {E : Exc} {lo q : Nat} {p : PlantD} {T : Sys} {w1 w2 wr : World} {er : Int} {i j c s al m : Nat} {u : Value} {d : Nat → Value} (hij : i ≠ j) (h : NR E lo q p er T c s al m wr i u d w1) (he : NE E lo q T m j w1 w2) : NR E lo q p er T c s al m wr i u d w2 := by
  letI : Exc := excB E lo q
  obtain ⟨h1, h2, h3, h4⟩ := h
  by_cases hj : j = m
  · obtain ⟨k1, k2⟩ := he.2 hj
    refine ⟨fun e => ?_, fun e => ?_, fun e => ?_, fun e => absurd (e.trans hj.symm) hij⟩
    · obtain ⟨R', a, b⟩ := h1 e; exact ⟨R', a, k1 R' b⟩
    · obtain ⟨R', a, b⟩ := h2 e; exact ⟨R', a, k1 R' b⟩
    · obtain ⟨nb, a, b, c⟩ := h3 e; exact ⟨nb, a, b, k2 nb c⟩
  · have hb := he.1 hj
    refine ⟨fun e => ?_, fun e => ?_, fun e => ?_, fun e => ?_⟩
    · obtain ⟨R', a, b⟩ := h1 e; exact ⟨R', a, (RefAt.below b hb).mono hb.size⟩
    · obtain ⟨R', a, b⟩ := h2 e; exact ⟨R', a, (RefAt.below b hb).mono hb.size⟩
    · obtain ⟨nb, a, b, R1, a1, b1, c1, c⟩ := h3 e; exact ⟨nb, a, b, R1, a1, b1, c1, c.below hb c.lt⟩
    · obtain ⟨R', nb, a, b, c, d'⟩ := h4 e; exact ⟨R', nb, a, b, c, d'.below hb d'.lt⟩
theorem NE.same {E : Exc} {lo q : Nat} {T : Sys} {m : Nat} (w : World) {j : Nat} (hj : j ≠ m) : NE E lo q T m j w w := ⟨fun _ => Below.refl _ _, fun h => absurd h hj⟩
theorem NE.below {E : Exc} {lo q : Nat} {T : Sys} {m : Nat} {w w' : World} {j : Nat} (hj : j ≠ m) (hb : Below w.heap.size w w') : NE E lo q T m j w w' := ⟨fun _ => hb, fun h => absurd h hj⟩
theorem NE.store {E : Exc} {lo q : Nat} {T : Sys} {m : Nat} {w w' : World} {nb a b c a' b' c' : Nat} {R0 R1 : RX} (ht : max E.top (lo + q) ≤ nb + 1) (h : Bk w nb 53 (refA R0 a b c)) (ho : Only nb w w') (h' : Bk w' nb 53 (refA R1 a' b' c')) : NE E lo q T m m w w' := by
  letI : Exc := excB E lo q
  exact ⟨fun e => absurd rfl e, fun _ => ⟨fun R' hr => RefAt.boxN hr ht h ho, fun n hn => hn.only ho h'⟩⟩
/-- The document's aborted: the state and how many orders were refused. -/
def AbortPost (w : World) (S : Sys) (l : List LitD) [Exc] (e : Ending) (w' : World) : Prop := ∃ R', e = .returned (.tuple #[.agg (SysA R' (abortB S l).1), .int .i64 (abortB S l).2]) ∧ RefAt w' w'.heap.size R' (abortB S l).1 ∧ Below w.heap.size w w'

set_option maxRecDepth 100000 in
set_option maxHeartbeats 8000000 in
theorem refAborted_any [E : Exc] (w : World) (x : PV) (R0 : RX) (S : Sys) (hp : PlantAt w w.heap.size x S.p) (hr : RefAt w w.heap.size R0 S) (ok : SysOk S) (y : QV) (sq : SeqD) (hq : SeqAt w w.heap.size y sq) :
    Calls Tryz.prog 106 #[.agg (plantA x S.p), .agg (SysA R0 S), .agg (seqA y sq)] w (AbortPost w S sq.abort) := by
  obtain ⟨W0, hW⟩ : ∃ W0, W0 = (((w.alloc (.cells (plantA x S.p) 27)).alloc (.cells (SysA R0 S) 53)).alloc (.cells (seqA y sq) 43)).alloc (.cells (refA nilR 0 0 0) 53) := ⟨_, rfl⟩
  have hbW : Below w.heap.size w W0 := by rw [hW]; exact ((((Below.refl _ _).alloc (Nat.le_refl _) _).alloc (by simp) _).alloc (by simp; omega) _).alloc (by simp; omega) _
  have hWs : W0.heap.size = w.heap.size + 4 := by rw [hW]; simp
  have hb0 : Bk W0 w.heap.size 27 (plantA x S.p) := by rw [hW]; exact (((Bk.new _ _ _).alloc _).alloc _).alloc _
  have hb1 : Bk W0 (w.heap.size + 1) 53 (SysA R0 S) := by rw [hW]; exact ((Bk.newAt _ _ _ _ (by simp)).alloc _).alloc _
  have hb2 : Bk W0 (w.heap.size + 1 + 1) 43 (seqA y sq) := by rw [hW]; exact (Bk.newAt _ _ _ _ (by simp)).alloc _
  have hb3 : Bk W0 (w.heap.size + 1 + 1 + 1) 53 (refA nilR 0 0 0) := by rw [hW]; exact Bk.newAt _ _ _ _ (by simp)
  obtain ⟨p, hSp⟩ : ∃ p, S.p = p := ⟨_, rfl⟩
  obtain ⟨Ex, hEx⟩ : ∃ Ex : List (Nat × TypeId × Array Value), Ex = [(w.heap.size, 27, plantA x p), (w.heap.size + 1 + 1, 43, seqA y sq), (w.heap.size + 1 + 1 + 1, 53, refA nilR 0 0 0)] := ⟨_, rfl⟩
  have HS0 : Hid (StQ E W0 w.heap.size 4 (w.heap.size + 1) p Ex W0 S) := Lib.hid ⟨⟨R0, by rw [← RA_of hSp]; exact hb1, RefAt.boxed hr hbW (by omega)⟩, hSp, Below.refl _ _, by omega, by omega, by omega, fun e he => by
    rw [hEx] at he
    simp only [List.mem_cons, List.not_mem_nil, or_false] at he
    rcases he with rfl | rfl | rfl
    · exact ⟨by show w.heap.size ≠ _; omega, by rw [← hSp]; exact hb0⟩
    · exact ⟨by show w.heap.size + 1 + 1 ≠ _; omega, hb2⟩
    · exact ⟨by show w.heap.size + 1 + 1 + 1 ≠ _; omega, hb3⟩⟩
  have HPB : Hid (∀ z T, StQ E W0 w.heap.size 4 (w.heap.size + 1) p Ex z T → Bk z w.heap.size 27 (plantA x p) ∧ Bk z (w.heap.size + 1 + 1) 43 (seqA y sq) ∧ Bk z (w.heap.size + 1 + 1 + 1) 53 (refA nilR 0 0 0)) := Lib.hid fun z T h =>
    ⟨(h.ex (w.heap.size, 27, plantA x p) (by rw [hEx]; simp)).2, (h.ex (w.heap.size + 1 + 1, 43, seqA y sq) (by rw [hEx]; simp)).2, (h.ex (w.heap.size + 1 + 1 + 1, 53, refA nilR 0 0 0) (by rw [hEx]; simp)).2⟩
  have HL : Hid (∀ z, Below w.heap.size W0 z → LitsAt z w.heap.size y.aA sq.abort) := Lib.hid fun z hz => Sl.below (Sl.below hq.abort hbW) hz
  have HP : Hid (∀ z, Below w.heap.size W0 z → PlantAt z w.heap.size x p) := Lib.hid fun z hz => by rw [← hSp]; exact (hp.below hbW).below hz
  have hsh := short_of ok.valid
  rw [hSp] at hsh
  have HSH := Lib.hid hsh
  have HNE := Lib.hid (show NeverOk p by rw [← hSp]; exact ok.neverOk)
  have HSP := Lib.hid hSp
  have HB := Lib.hid hbW
  have HW := Lib.hid hW
  obtain ⟨n, hn⟩ : ∃ n, sq.abort.length = n := ⟨_, rfl⟩
  have hn9 : n ≤ 9223372036854775807 := by rw [← hn]; exact hq.abort.1
  obtain ⟨GS, hGS⟩ : ∃ G, (abortB S sq.abort).1 = G := ⟨_, rfl⟩
  obtain ⟨GN, hGN⟩ : ∃ G, (abortB S sq.abort).2 = G := ⟨_, rfl⟩
  have HG0 : Hid ((abortB S (sq.abort.drop 0)).1 = GS ∧ 0 + (abortB S (sq.abort.drop 0)).2 = GN) := Lib.hid ⟨hGS, by rw [Int.zero_add]; exact hGN⟩
  have HPOST : Hid (∀ e w', (∃ R', e = .returned (.tuple #[.agg (RA p R'), .int .i64 GN]) ∧ RefAt w' w'.heap.size R' GS ∧ Below w.heap.size w w') → AbortPost w S sq.abort e w') := Lib.hid fun e w' ⟨R', h1, h2, h3⟩ => by
    have hGp : GS.p = p := by rw [← hGS, (abortB_keeps sq.abort S).1]; exact hSp
    exact ⟨R', by rw [hGN, hGS, RA_of hGp]; exact h1, by rw [hGS]; exact h2, h3⟩
  rw [hSp, RA_of hSp] at HW ⊢
  have HN := Lib.hid hn
  simp only [plantA, RA, refA, nilR, seqA] at HW
  simp only [plantA, RA, refA, seqA]
  rw [hn] at HW ⊢
  clear hp hr ok hq hW hbW hWs hb0 hb1 hb2 hb3 hSp hEx hsh hn hGS hGN
  go_enter Tryz.func106, Tryz.ntmps106
  go_wp2_with fail
  rw [← HW.out]
  go_loopw [8, 9] (fun r i wr => ∃ (k m : Nat) (T : Sys), k ≤ n ∧ m ≤ k ∧ i = .int .i64 k ∧ r = .int .i64 m ∧ Hid (StQ E W0 w.heap.size 4 (w.heap.size + 1) p Ex wr T ∧ (abortB T (sq.abort.drop k)).1 = GS ∧ (m : Int) + (abortB T (sq.abort.drop k)).2 = GN)) (fun _ i _ => n - (intOf i).toNat)
  case atStart => exact ⟨0, 0, S, Nat.zero_le _, Nat.le_refl _, rfl, rfl, Lib.hid ⟨HS0.out, HG0.out⟩⟩
  case round =>
    obtain ⟨k, m, T, hk, hm, rfl, rfl, hs⟩ := hrel
    have hsq : Hid (StQ E W0 w.heap.size 4 (w.heap.size + 1) p Ex wr T) := Lib.hid hs.out.1
    have k2 : wr.cell? ⟨w.heap.size + 1 + 1, 2, none⟩ = some (.slice y.aA n y.ac) := by rw [← HN.out]; exact (HPB.out wr T hsq.out).2.1.cell 2
    by_cases hlt : k < n
    · have hki : (k : Int) < (n : Int) := by omega
      have h0i : (0 : Int) ≤ (k : Int) := by omega
      have hm9 : (m : Int) < (n : Int) := by omega
      have h0m : (0 : Int) ≤ (m : Int) := by omega
      have hlt' : k < sq.abort.length := by rw [HN.out]; exact hlt
      obtain ⟨b, off, hA, hBb, d0, d1⟩ := Sl.at2 (HL.out wr hsq.out.below) hlt'
      obtain ⟨d, hd⟩ : ∃ d, sq.abort.getD k lit0 = d := ⟨_, rfl⟩
      have hst := abortB_step (S := T) hlt'
      rw [hd] at hst
      have hs3 := hs.out.2
      rw [hst] at hs3
      have HORD : Hid (∀ z, Below wr.heap.size wr z → ∀ j u, (#[litC d 0, litC d 1] : Array Value)[j]? = some u → z.cell? ⟨b, off + k * 2 + j, none⟩ = some u) := Lib.hid fun z hz j u hj => by
        have hsz := hsq.out.size
        obtain ⟨b', off', hA', _, g0, g1⟩ := Sl.at2 (HL.out z (hsq.out.below.trans (hz.mono (by omega)))) hlt'
        rw [hd] at g0 g1
        rw [hA] at hA'
        obtain ⟨rfl, rfl⟩ : b = b' ∧ off = off' := by simpa using hA'
        match j, hj with
        | 0, hj => simp at hj; subst hj; exact g0
        | 1, hj => simp at hj; subst hj; exact g1
        | j + 2, hj => simp at hj
      obtain ⟨v, o⟩ := d
      simp only [litC] at hs3 HORD
      obtain ⟨er, her⟩ : ∃ er, (orderB T v o).1 = er := ⟨_, rfl⟩
      obtain ⟨T', hT'⟩ : ∃ T', (orderB T v o).2 = T' := ⟨_, rfl⟩
      have hTp : T'.p = p := by rw [← hT', (orderB_keeps T v o).1]; exact hsq.out.tp
      have hno : ¬ er = 0 → T' = T := fun h => by rw [← hT']; exact orderB_no (by rw [her]; exact h)
      rw [hT', her] at hs3
      obtain ⟨R, r1, r2⟩ := hsq.out.st
      have hsz := hsq.out.size
      have HT0 := Lib.hid hsq.out.tp
      have HPK : Hid (∀ z, Below wr.heap.size wr z → Bk z w.heap.size 27 (plantA x p)) := Lib.hid fun z hz => (HPB.out z _ (hsq.out.later hz)).1
      have HSQ2 : Hid (∀ z, Below wr.heap.size wr z → z.cell? ⟨w.heap.size + 1 + 1, 2, none⟩ = some (.slice (some ⟨b, off, none⟩) n y.ac)) := Lib.hid fun z hz => by rw [← HN.out, ← hA]; exact (HPB.out z _ (hsq.out.later hz)).2.1.cell 2
      have HBSX : Hid (∀ z, Below wr.heap.size wr z → Bk z (w.heap.size + 1) 53 (RA p R)) := Lib.hid fun z hz => r1.below hz r1.lt
      have HTOP : Hid (max E.top (w.heap.size + 4) ≤ wr.heap.size) := Lib.hid (@SlO.top (excB E w.heap.size 4) _ _ _ _ _ (r2 0 (by omega)))
      have HCALL : Hid (∀ z, Below wr.heap.size wr z → Calls Tryz.prog 45 #[.agg (plantA x p), .agg (RA p R), .agg #[.int .i64 v, .bool o]] z fun e w' => ∃ R', e = .returned (.tuple #[.agg (RA p R'), .int .i64 er]) ∧ @RefAt (excB E w.heap.size 4) w' w'.heap.size R' T' ∧ Below z.heap.size z w') := Lib.hid fun z hz => by
        have a1 : PlantAt z z.heap.size x p := (HP.out z (hsq.out.below.trans (hz.mono (by omega)))).mono (by have := hz.size; omega)
        have a2 : @RefAt (excB E w.heap.size 4) z z.heap.size R T := by
          letI : Exc := excB E w.heap.size 4
          exact (RefAt.below r2 hz).mono hz.size
        have h := @refOrder_any (excB E w.heap.size 4) z x R T (by rw [HT0.out]; exact a1) a2 (by rw [HT0.out]; exact HSH.out) (by rw [HT0.out]; exact HNE.out) v o
        rw [HT0.out, RA_of HT0.out, her, hT'] at h
        refine h.mono ?_
        rintro e w' ⟨R', rfl, h1, h2⟩
        exact ⟨R', by rw [RA_of hTp], h1, h2⟩
      have HTP := Lib.hid hTp
      have HNO := Lib.hid hno
      have HS3 := Lib.hid hs3
      have hwl : w.heap.size + 4 ≤ wr.heap.size := hsz
      rw [hA] at k2
      clear hd hst hs3 r1 r2 hTp hno her hT' hA d0 d1 hs hsz
      go_wp2_with fail
      refine wp_region_steps (by kernel_rfl) (by kernel_rfl) (fun w1 => Below wr.heap.size wr w1) (NE E w.heap.size 4 T' 12)
        (fun ix u d w1 => (match ix with
          | 0 => u = .agg (plantA x p)
          | 1 => u = .agg (RA p R)
          | 2 => u = .pointer (some ⟨w.heap.size + 1 + 1, 2, none⟩)
          | 3 => u = .slice (some ⟨b, off, none⟩) n y.ac
          | 4 => u = .int .i64 k
          | 5 => u = .pointer (some ⟨b, off + k * 2, none⟩)
          | 6 => u = .agg #[.int .i64 v, .bool o]
          | 7 => True
          | 8 => True
          | 9 => True
          | 10 => u = .int .i64 er
          | 11 => True
          | 12 => True
          | _ => u = .int .i64 er) ∧ NR E w.heap.size 4 p er T' 7 9 11 12 wr ix u d w1) (Below.refl _ _).drew (fun i j hij _ u d w1 w2 ⟨hr1, hr2⟩ _ he => ⟨hr1, hr2.keep hij he⟩) ?_ ?_
      · refine ⟨?_, ?_, ?_, ?_, ?_, ?_, ?_, ?_, ?_, ?_, ?_, ?_, ?_, ?_, trivial⟩
        · intro a w1 vs K HJ HK HD HN kk
          have e3 := HK 3 (by decide)
          exact wpo_loadS 27 (.tmp 3) rfl w.heap.size 0 (by simpa [Act.eval] using e3) (plantA x p) _ (fun j u hj => by rw [Nat.zero_add]; exact ((HPK.out w1 HJ).cell j).trans hj) und_plant rfl info_plant (kk _ _ (by simp) HJ (NE.same _ (by omega)) ⟨rfl, ⟨fun e => by omega, fun e => by omega, fun e => by omega, fun e => by omega⟩⟩)
        · intro a w1 vs K HJ HK HD HN kk
          have e4 := HK 4 (by decide)
          exact wpo_loadS 53 (.tmp 4) rfl (w.heap.size + 1) 0 (by simpa [Act.eval] using e4) (RA p R) _ (fun j u hj => by rw [Nat.zero_add]; exact ((HBSX.out w1 HJ).cell j).trans hj) und_state rfl info_state (kk _ _ (by simp) HJ (NE.same _ (by omega)) ⟨rfl, ⟨fun e => by omega, fun e => by omega, fun e => by omega, fun e => by omega⟩⟩)
        · intro a w1 vs K HJ HK HD HN kk
          have e5 := HK 5 (by decide)
          go_simp; exact kk _ _ (by simp) HJ (NE.same _ (by omega)) ⟨rfl, ⟨fun e => by omega, fun e => by omega, fun e => by omega, fun e => by omega⟩⟩
        · intro a w1 vs K HJ HK HD HN kk
          have e22 := (HD 2 _ 22 rfl rfl rfl).1.trans (HD 2 _ 22 rfl rfl rfl).2.1
          have ca := HSQ2.out w1 HJ
          go_simp; exact kk _ _ (by simp) HJ (NE.same _ (by omega)) ⟨rfl, ⟨fun e => by omega, fun e => by omega, fun e => by omega, fun e => by omega⟩⟩
        · intro a w1 vs K HJ HK HD HN kk
          have e9 := HK 9 (by decide)
          go_simp; exact kk _ _ (by simp) HJ (NE.same _ (by omega)) ⟨rfl, ⟨fun e => by omega, fun e => by omega, fun e => by omega, fun e => by omega⟩⟩
        · intro a w1 vs K HJ HK HD HN kk
          have e23 := (HD 3 _ 23 rfl rfl rfl).1.trans (HD 3 _ 23 rfl rfl rfl).2.1
          have e24 := (HD 4 _ 24 rfl rfl rfl).1.trans (HD 4 _ 24 rfl rfl rfl).2.1
          go_simp; exact kk _ _ (by simp) HJ (NE.same _ (by omega)) ⟨rfl, ⟨fun e => by omega, fun e => by omega, fun e => by omega, fun e => by omega⟩⟩
        · intro a w1 vs K HJ HK HD HN kk
          have e25 := (HD 5 _ 25 rfl rfl rfl).1.trans (HD 5 _ 25 rfl rfl rfl).2.1
          exact wpo_loadS 38 (.tmp 25) rfl b (off + k * 2) (by simpa [Act.eval] using e25) #[.int .i64 v, .bool o] _ (HORD.out w1 HJ) und_order rfl info_order (kk _ _ (by simp) HJ (NE.same _ (by omega)) ⟨rfl, ⟨fun e => by omega, fun e => by omega, fun e => by omega, fun e => by omega⟩⟩)
        · intro a w1 vs K HJ HK HD HN kk
          have e20 := (HD 0 _ 20 rfl rfl rfl).1.trans (HD 0 _ 20 rfl rfl rfl).2.1
          have e21 := (HD 1 _ 21 rfl rfl rfl).1.trans (HD 1 _ 21 rfl rfl rfl).2.1
          have e26 := (HD 6 _ 26 rfl rfl rfl).1.trans (HD 6 _ 26 rfl rfl rfl).2.1
          exact wpo_call 45 _ _ rfl #[.agg (plantA x p), .agg (RA p R), .agg #[.int .i64 v, .bool o]] (by simp [Act.eval, e20, e21, e26]) (fun args w => by kernel_rfl)
            ((HCALL.out w1 HJ).mono fun e w' ⟨R', he, hr, hb⟩ => ⟨_, he, kk _ _ (by simp) (HJ.trans (hb.mono HJ.size)) (NE.below (by omega) hb) ⟨trivial, ⟨fun _ => ⟨R', rfl, hr⟩, fun e => by omega, fun e => by omega, fun e => by omega⟩⟩⟩)
        · intro a w1 vs K HJ HK HD HN kk
          obtain ⟨q6, r6⟩ := HD 7 _ 27 rfl rfl rfl
          obtain ⟨R', x1, x2⟩ := r6.2.1 (Or.inl rfl)
          exact wpo_move (.tmp 27) _ (Or.inl rfl) (by simpa [Act.eval] using q6.trans x1) (kk _ _ (by simp) HJ (NE.same _ (by omega)) ⟨trivial, ⟨fun _ => ⟨_, rfl, x2⟩, fun e => by omega, fun e => by omega, fun e => by omega⟩⟩)
        · intro a w1 vs K HJ HK HD HN kk
          obtain ⟨q7, r7⟩ := HD 8 _ 19 rfl rfl rfl
          obtain ⟨R', x1, x2⟩ := r7.2.1 (Or.inr rfl)
          have e19 := q7.trans x1
          clear x1 q7 r7
          go_simp; exact kk _ _ (by simp) HJ (NE.same _ (by omega)) ⟨trivial, ⟨fun e => by omega, fun _ => ⟨_, rfl, x2⟩, fun e => by omega, fun e => by omega⟩⟩
        · intro a w1 vs K HJ HK HD HN kk
          obtain ⟨q7, r7⟩ := HD 8 _ 19 rfl rfl rfl
          obtain ⟨R', x1, x2⟩ := r7.2.1 (Or.inr rfl)
          have e19 := q7.trans x1
          clear x1 x2 q7 r7
          go_simp; exact kk _ _ (by simp) HJ (NE.same _ (by omega)) ⟨rfl, ⟨fun e => by omega, fun e => by omega, fun e => by omega, fun e => by omega⟩⟩
        · intro a w1 vs K HJ HK HD HN kk
          go_simp; exact kk _ _ (by simp) (HJ.alloc HJ.size _) (NE.below (by omega) ((Below.refl _ _).alloc (Nat.le_refl _) _)) ⟨trivial, ⟨fun e => by omega, fun e => by omega, fun _ => ⟨_, rfl, HJ.size, nilR, 0, 0, 0, Bk.new _ _ _⟩, fun e => by omega⟩⟩
        · intro a w1 vs K HJ HK HD HN kk
          obtain ⟨q10, r10⟩ := HD 11 _ 10 rfl rfl rfl
          obtain ⟨nb, x1, x2, R0, ca, cb, cc, x3⟩ := r10.2.2.2.1 rfl
          obtain ⟨q8, r8⟩ := HD 9 _ 28 rfl rfl rfl
          obtain ⟨R', y1, y2⟩ := r8.2.2.1 rfl
          exact wpo_storeS 53 (.tmp 10) (.tmp 28) rfl rfl nb 0 (by simpa [Act.eval] using q10.trans x1) (RA p R') (by simpa [Act.eval] using q8.trans y1) 53 (refA R0 ca cb cc) x3 (by show 0 + 9 ≤ 9; omega) (refA_one _ _ _ _) info_state fun w2 hk2 ho2 => by
            have hk3 : Bk w2 nb 53 (RA p R') := by rw [splA_all _ _ (by rw [RA, refA_size, refA_size])] at hk2; exact hk2
            exact kk undef _ (by simp) (HJ.trans (ho2.below x2)) (NE.store (by have := HTOP.out; omega) x3 ho2 hk3) ⟨trivial, ⟨fun e => by omega, fun e => by omega, fun e => by omega, fun _ => ⟨R', nb, x1, y1, x2, hk3⟩⟩⟩
        · intro a w1 vs K HJ HK HD HN kk
          have e29 := (HD 10 _ 29 rfl rfl rfl).1.trans (HD 10 _ 29 rfl rfl rfl).2.1
          go_simp; exact kk _ _ (by simp) HJ (NE.same _ (by omega)) ⟨rfl, ⟨fun e => by omega, fun e => by omega, fun e => by omega, fun e => by omega⟩⟩
      · intro vs w6 hw6 hrr
        obtain ⟨R', y1, y2⟩ := (hrr 9 _ rfl).2.2.1 rfl
        obtain ⟨R2, nb, z1, z2, z3, z4⟩ := (hrr 12 _ rfl).2.2.2.2 rfl
        have z1' : vs 11 = .pointer (some ⟨nb, 0, none⟩) := z1
        have z2' : vs 9 = .agg (RA p R2) := z2
        have e13 : vs 13 = .int .i64 er := (hrr 13 _ rfl).1
        have hra : RA p R2 = RA p R' := by have := z2'.symm.trans y1; injection this
        rw [hra] at z4
        have HK6 := Lib.hid z4
        have HZ6 := Lib.hid hw6
        have HR6 := Lib.hid y2
        clear hrr z1 z2 z2' y1 hra z4 hw6 y2 z3
        simp only [putAll, Act.put, List.setIfInBounds_toArray, List.set_cons_zero, List.set_cons_succ]
        rw [z1', e13]
        clear z1' e13
        by_cases e0 : er = 0
        · subst e0
          have HBX := Lib.hid (HBSX.out w6 HZ6.out)
          have HSTO : Hid (∀ w2, Bk w2 (w.heap.size + 1) 53 (RA p R') → Only (w.heap.size + 1) w6 w2 → StQ E W0 w.heap.size 4 (w.heap.size + 1) p Ex w2 T') := Lib.hid fun w2 h1 h2 => hsq.out.store HZ6.out HR6.out HTP.out h1 h2
          go_wp2_with (first
            | (refine wpLoadAt rfl 53 _ rfl nb 0 rfl (RA p R') _ (fun j u hj => by rw [Nat.zero_add]; exact (HK6.out.cell j).trans hj) und_state rfl info_state ?_)
            | (refine wpStoreAt rfl rfl 53 _ _ rfl (w.heap.size + 1) 0 rfl (RA p R') rfl 53 _ HBX.out (by rw [RA_size, RA_size]; omega) (RA_one _ _) info_state ?_; intro wf hkf hof; have HSF := Lib.hid (HSTO.out wf (by rw [RA_spl] at hkf; exact hkf) hof); clear hkf hof))
          go_roundw
          case rel => exact ⟨k + 1, m, T', by omega, by omega, by go_num, rfl, Lib.hid ⟨HSF.out, HS3.out.1, by have := HS3.out.2; rw [if_pos rfl] at this; omega⟩⟩
          case measure => simp [intOf]; omega
        · have hTT := HNO.out e0
          have HSF : Hid (StQ E W0 w.heap.size 4 (w.heap.size + 1) p Ex w6 T') := Lib.hid (by rw [hTT]; exact hsq.out.later HZ6.out)
          have HS4 : Hid ((abortB T' (sq.abort.drop (k + 1))).1 = GS ∧ ((m + 1 : Nat) : Int) + (abortB T' (sq.abort.drop (k + 1))).2 = GN) := Lib.hid ⟨HS3.out.1, by have := HS3.out.2; rw [if_neg e0] at this; omega⟩
          clear hTT
          go_wp2_with fail
          go_roundw
          case rel => exact ⟨k + 1, m + 1, T', by omega, by omega, by go_num, by go_num, Lib.hid ⟨HSF.out, HS4.out⟩⟩
          case measure => simp [intOf]; omega
    · obtain rfl : k = n := by omega
      have hG2 : T = GS ∧ (m : Int) = GN := by have := hs.out.2; rw [← HN.out, abortB_end] at this; exact ⟨this.1, by omega⟩
      obtain ⟨rfl, rfl⟩ := hG2
      obtain ⟨R, r1, r2⟩ := hsq.out.st
      have hR1 := Lib.hid r1
      have hrb := Lib.hid (HPB.out wr _ hsq.out).2.2
      have HR2 := Lib.hid r2
      clear r1 r2
      go_wp2_with (first
        | (refine wpLoadAt rfl 53 _ rfl (w.heap.size + 1) 0 rfl (RA p R) _ (fun j u hj => by rw [Nat.zero_add]; exact (hR1.out.cell j).trans hj) und_state rfl info_state ?_)
        | (refine wpStoreAt rfl rfl 53 _ _ rfl (w.heap.size + 1 + 1 + 1) 0 rfl (RA p R) rfl 53 _ hrb.out (by rw [RA_size]; show 0 + 9 ≤ 9; omega) (RA_one _ _) info_state ?_; intro wf hkf hof))
      have hkf' : Bk wf (w.heap.size + 1 + 1 + 1) 53 (RA p R) := by rw [splA_all _ _ (by rw [RA_size]; rfl)] at hkf; exact hkf
      refine bodyPost_ret (results_cellS_tmp rfl _ _ (w.heap.size + 1 + 1 + 1) 53 (RA p R) _ rfl hkf' und_state rfl (by rw [RA_size]; exact info_state)) rfl ?_
      exact HPOST.out _ _ ⟨R, rfl, (HR2.out.stay hof (by omega) (by omega)).less, (HB.out.trans hsq.out.below).trans (hof.below (by omega))⟩
end Go.Proofs.YtogobjmmgjfjjaaGreat
/- What is proved: a contract of the document's ordered. Conditions: the plant, the state, the sequence lie in memory. -/
namespace Go.Proofs.YtogobjmmgjfjjaaGreat
open Go.RowKit

def idxI : Option Nat → Int
  | none => -1
  | some i => i
/-- The document's ordered: the state and the index of the step that was refused. -/
def OrdPost (w : World) (S : Sys) (q : SeqD) (tick : Int) [Exc] (e : Ending) (w' : World) : Prop :=
  ∃ R', e = .returned (.tuple #[.agg (SysA R' (stepsF q tick q.steps.length 0 S).1), .int .i64 (idxI (stepsF q tick q.steps.length 0 S).2)]) ∧ RefAt w' w'.heap.size R' (stepsF q tick q.steps.length 0 S).1 ∧ Below w.heap.size w w'

set_option maxRecDepth 100000 in
set_option maxHeartbeats 8000000 in
theorem refOrdered_any [E : Exc] (w : World) (x : PV) (R0 : RX) (S : Sys) (hp : PlantAt w w.heap.size x S.p) (hr : RefAt w w.heap.size R0 S) (ok : SysOk S) (y : QV) (sq : SeqD) (hq : SeqAt w w.heap.size y sq) (tick : Int) :
    Calls Tryz.prog 152 #[.agg (plantA x S.p), .agg (SysA R0 S), .agg (seqA y sq), .int .i64 tick] w (OrdPost w S sq tick) := by
  obtain ⟨W0, hW⟩ : ∃ W0, W0 = (((w.alloc (.cells (plantA x S.p) 27)).alloc (.cells (SysA R0 S) 53)).alloc (.cells (seqA y sq) 43)).alloc (.cells (refA nilR 0 0 0) 53) := ⟨_, rfl⟩
  have hbW : Below w.heap.size w W0 := by rw [hW]; exact ((((Below.refl _ _).alloc (Nat.le_refl _) _).alloc (by simp) _).alloc (by simp; omega) _).alloc (by simp; omega) _
  have hWs : W0.heap.size = w.heap.size + 4 := by rw [hW]; simp
  have hb0 : Bk W0 w.heap.size 27 (plantA x S.p) := by rw [hW]; exact (((Bk.new _ _ _).alloc _).alloc _).alloc _
  have hb1 : Bk W0 (w.heap.size + 1) 53 (SysA R0 S) := by rw [hW]; exact ((Bk.newAt _ _ _ _ (by simp)).alloc _).alloc _
  have hb2 : Bk W0 (w.heap.size + 1 + 1) 43 (seqA y sq) := by rw [hW]; exact (Bk.newAt _ _ _ _ (by simp)).alloc _
  have hb3 : Bk W0 (w.heap.size + 1 + 1 + 1) 53 (refA nilR 0 0 0) := by rw [hW]; exact Bk.newAt _ _ _ _ (by simp)
  obtain ⟨p, hSp⟩ : ∃ p, S.p = p := ⟨_, rfl⟩
  obtain ⟨Ex, hEx⟩ : ∃ Ex : List (Nat × TypeId × Array Value), Ex = [(w.heap.size, 27, plantA x p), (w.heap.size + 1 + 1, 43, seqA y sq), (w.heap.size + 1 + 1 + 1, 53, refA nilR 0 0 0)] := ⟨_, rfl⟩
  have HS0 : Hid (StQ E W0 w.heap.size 4 (w.heap.size + 1) p Ex W0 S) := Lib.hid ⟨⟨R0, by rw [← RA_of hSp]; exact hb1, RefAt.boxed hr hbW (by omega)⟩, hSp, Below.refl _ _, by omega, by omega, by omega, fun e he => by
    rw [hEx] at he
    simp only [List.mem_cons, List.not_mem_nil, or_false] at he
    rcases he with rfl | rfl | rfl
    · exact ⟨by show w.heap.size ≠ _; omega, by rw [← hSp]; exact hb0⟩
    · exact ⟨by show w.heap.size + 1 + 1 ≠ _; omega, hb2⟩
    · exact ⟨by show w.heap.size + 1 + 1 + 1 ≠ _; omega, hb3⟩⟩
  have HPB : Hid (∀ z T, StQ E W0 w.heap.size 4 (w.heap.size + 1) p Ex z T → Bk z w.heap.size 27 (plantA x p) ∧ Bk z (w.heap.size + 1 + 1) 43 (seqA y sq) ∧ Bk z (w.heap.size + 1 + 1 + 1) 53 (refA nilR 0 0 0)) := Lib.hid fun z T h =>
    ⟨(h.ex (w.heap.size, 27, plantA x p) (by rw [hEx]; simp)).2, (h.ex (w.heap.size + 1 + 1, 43, seqA y sq) (by rw [hEx]; simp)).2, (h.ex (w.heap.size + 1 + 1 + 1, 53, refA nilR 0 0 0) (by rw [hEx]; simp)).2⟩
  have HQ : Hid (∀ z, Below w.heap.size W0 z → SeqAt z w.heap.size y sq) := Lib.hid fun z hz => (hq.below hbW).below hz
  have HP : Hid (∀ z, Below w.heap.size W0 z → PlantAt z w.heap.size x p) := Lib.hid fun z hz => by rw [← hSp]; exact (hp.below hbW).below hz
  have hsh := short_of ok.valid
  rw [hSp] at hsh
  have HSH := Lib.hid hsh
  have HNE := Lib.hid (show NeverOk p by rw [← hSp]; exact ok.neverOk)
  have HSP := Lib.hid hSp
  have HB := Lib.hid hbW
  have HW := Lib.hid hW
  obtain ⟨n, hn⟩ : ∃ n, sq.steps.length = n := ⟨_, rfl⟩
  have hn9 : n ≤ 9223372036854775807 := by rw [← hn]; exact hq.steps.1
  obtain ⟨G, hG⟩ : ∃ G, stepsF sq tick n 0 S = G := ⟨_, rfl⟩
  have HG0 : Hid (stepsF sq tick (n - 0) 0 S = G) := Lib.hid hG
  have HPOST : Hid (∀ e w', (∃ R', e = .returned (.tuple #[.agg (RA p R'), .int .i64 (idxI G.2)]) ∧ RefAt w' w'.heap.size R' G.1 ∧ Below w.heap.size w w') → OrdPost w S sq tick e w') := Lib.hid fun e w' ⟨R', h1, h2, h3⟩ => by
    have hGp : G.1.p = p := by rw [← hG, (stepsF_keeps sq tick n 0 S).1]; exact hSp
    exact ⟨R', by rw [hn, hG, RA_of hGp]; exact h1, by rw [hn, hG]; exact h2, h3⟩
  rw [hSp, RA_of hSp] at HW ⊢
  have HN := Lib.hid hn
  simp only [plantA, RA, refA, nilR, seqA] at HW
  simp only [plantA, RA, refA, seqA]
  rw [hn] at HW ⊢
  clear hp hr ok hq hW hbW hWs hb0 hb1 hb2 hb3 hSp hEx hsh hn hG
  go_enter Tryz.func152, Tryz.ntmps152
  go_wp2_with fail
  rw [← HW.out]
  have FIN : Hid (∀ z T, StQ E W0 w.heap.size 4 (w.heap.size + 1) p Ex z T → ∃ R, Bk z (w.heap.size + 1) 53 (RA p R) ∧ Bk z (w.heap.size + 1 + 1 + 1) 53 (refA nilR 0 0 0) ∧
      ∀ wf, Only (w.heap.size + 1 + 1 + 1) z wf → RefAt wf wf.heap.size R T ∧ Below w.heap.size w wf) := Lib.hid fun z T h => by
    obtain ⟨R, r1, r2⟩ := h.st
    exact ⟨R, r1, (HPB.out z _ h).2.2, fun wf hof => ⟨(r2.stay hof (by omega) (by omega)).less, (HB.out.trans h.below).trans (hof.below (by omega))⟩⟩
  go_loopw [10] (fun i wr => ∃ (k : Nat) (T : Sys), k ≤ n ∧ i = .int .i64 k ∧ Hid (StQ E W0 w.heap.size 4 (w.heap.size + 1) p Ex wr T ∧ stepsF sq tick (n - k) k T = G)) (fun i _ => n - (intOf i).toNat)
  case atStart => exact ⟨0, S, Nat.zero_le _, rfl, Lib.hid ⟨HS0.out, HG0.out⟩⟩
  case round =>
    obtain ⟨i, T, hi, rfl, hs⟩ := hrel
    have k0 : wr.cell? ⟨w.heap.size + 1 + 1, 0, none⟩ = some (.slice y.sA n y.sc) := by rw [← HN.out]; exact (HPB.out wr T hs.out.1).2.1.cell 0
    by_cases hlt : i < n
    · have hii : (i : Int) < (n : Int) := by omega
      have h0i : (0 : Int) ≤ (i : Int) := by omega
      have hlt' : i < sq.steps.length := by rw [HN.out]; exact hlt
      obtain ⟨b, off, hA, hBb, d0, d1, d2⟩ := (HQ.out wr hs.out.1.below).steps.at3 hlt'
      simp only [stepC] at d0 d1 d2
      obtain ⟨nk, hnk⟩ : ∃ m, (sq.step i).orders.length = m := ⟨_, rfl⟩
      have hnk9 : nk ≤ 9223372036854775807 := by rw [← hnk]; exact ((HQ.out wr hs.out.1.below).so i hlt').1
      have HD : Hid (∀ z, Below w.heap.size W0 z → z.cell? ⟨b, off + i * 3, none⟩ = some (.int .i64 (sq.step i).at_) ∧ z.cell? ⟨b, off + i * 3 + 1, none⟩ = some (.slice (y.oA i) nk (y.oc i))) := Lib.hid fun z hz => by
        obtain ⟨b', off', hA', _, g0, g1, _⟩ := (HQ.out z hz).steps.at3 hlt'
        simp only [stepC] at g0 g1
        rw [hA] at hA'
        obtain ⟨rfl, rfl⟩ : b = b' ∧ off = off' := by simpa using hA'
        exact ⟨g0, by rw [← hnk]; exact g1⟩
      have HSB : Hid (∀ z T, StQ E W0 w.heap.size 4 (w.heap.size + 1) p Ex z T → z.cell? ⟨w.heap.size + 1 + 1, 0, none⟩ = some (.slice (some ⟨b, off, none⟩) n y.sc)) := Lib.hid fun z T h => by rw [← HN.out, ← hA]; exact (HPB.out z T h).2.1.cell 0
      have hgs := hs.out.2
      rw [show n - i = (n - (i + 1)) + 1 from by omega] at hgs
      have HNK := Lib.hid hnk
      rw [hA] at k0
      by_cases hat : (sq.step i).at_ = tick
      · obtain ⟨GV, hGV⟩ : ∃ g, giveB T (sq.step i).orders = g := ⟨_, rfl⟩
        have hst : Hid (GV.2 = false → stepsF sq tick (n - (i + 1)) (i + 1) GV.1 = G) := Lib.hid fun h => by
          rw [← hGV] at h ⊢
          rw [← hgs, stepsF_step hat h]
        have hht : Hid (GV.2 = true → (GV.1, some i) = G) := Lib.hid fun h => by
          rw [← hGV] at h ⊢
          rw [← hgs, stepsF_hit hat h]
        have HG1 : Hid (giveB T ((sq.step i).orders.drop 0) = GV) := Lib.hid hGV
        have HAT := Lib.hid hat
        have HSQ0 := Lib.hid hs.out.1
        clear hgs hGV hat d0 d1 d2 hnk hA
        go_wp2_with fail
        clear k0
        go_loopw [11] (fun j wr => ∃ (k : Nat) (U : Sys), k ≤ nk ∧ j = .int .i64 k ∧ Hid (StQ E W0 w.heap.size 4 (w.heap.size + 1) p Ex wr U ∧ giveB U ((sq.step i).orders.drop k) = GV)) (fun j _ => nk - (intOf j).toNat)
        case atStart => exact ⟨0, T, Nat.zero_le _, rfl, Lib.hid ⟨HSQ0.out, HG1.out⟩⟩
        case round =>
          obtain ⟨k, U, hk, rfl, hu⟩ := hrel
          have k0 := HSB.out wr U hu.out.1
          obtain ⟨d0, d1⟩ := HD.out wr hu.out.1.below
          rw [HAT.out] at d0
          by_cases hlk : k < nk
          · have hkk : (k : Int) < (nk : Int) := by omega
            have h0k : (0 : Int) ≤ (k : Int) := by omega
            have hlk' : k < (sq.step i).orders.length := by rw [HNK.out]; exact hlk
            obtain ⟨b2, off2, hA2, hBb2, e0, e1⟩ := Sl.at2 ((HQ.out wr hu.out.1.below).so i hlt') hlk'
            obtain ⟨d, hd⟩ : ∃ d, (sq.step i).orders.getD k lit0 = d := ⟨_, rfl⟩
            have hok := giveB_ok (S := U) hlk'
            have hno := giveB_no (S := U) hlk'
            rw [hu.out.2, hd] at hok hno
            have HORD : Hid (∀ z, Below wr.heap.size wr z → ∀ j u, (#[litC d 0, litC d 1] : Array Value)[j]? = some u → z.cell? ⟨b2, off2 + k * 2 + j, none⟩ = some u) := Lib.hid fun z hz j u hj => by
              have hsz := hu.out.1.size
              obtain ⟨b', off', hA', _, g0, g1⟩ := Sl.at2 ((HQ.out z (hu.out.1.below.trans (hz.mono (by omega)))).so i hlt') hlk'
              rw [hd] at g0 g1
              rw [hA2] at hA'
              obtain ⟨rfl, rfl⟩ : b2 = b' ∧ off2 = off' := by simpa using hA'
              match j, hj with
              | 0, hj => simp at hj; subst hj; exact g0
              | 1, hj => simp at hj; subst hj; exact g1
              | j + 2, hj => simp at hj
            obtain ⟨v, o⟩ := d
            simp only [litC] at HORD hok hno
            obtain ⟨er, her⟩ : ∃ er, (orderB U v o).1 = er := ⟨_, rfl⟩
            obtain ⟨T', hT'⟩ : ∃ T', (orderB U v o).2 = T' := ⟨_, rfl⟩
            have hTp : T'.p = p := by rw [← hT', (orderB_keeps U v o).1]; exact hu.out.1.tp
            rw [her, hT'] at hok
            rw [her] at hno
            obtain ⟨R, r1, r2⟩ := hu.out.1.st
            have hsz := hu.out.1.size
            have HT0 := Lib.hid hu.out.1.tp
            have HPK : Hid (∀ z, Below wr.heap.size wr z → Bk z w.heap.size 27 (plantA x p)) := Lib.hid fun z hz => (HPB.out z _ (hu.out.1.later hz)).1
            have HSQ2 : Hid (∀ z, Below wr.heap.size wr z → z.cell? ⟨w.heap.size + 1 + 1, 0, none⟩ = some (.slice (some ⟨b, off, none⟩) n y.sc)) := Lib.hid fun z hz => HSB.out z _ (hu.out.1.later hz)
            have HD1 : Hid (∀ z, Below wr.heap.size wr z → z.cell? ⟨b, off + i * 3 + 1, none⟩ = some (.slice (some ⟨b2, off2, none⟩) nk (y.oc i))) := Lib.hid fun z hz => by rw [← hA2]; exact (HD.out z (hu.out.1.below.trans (hz.mono (by omega)))).2
            have HBSX : Hid (∀ z, Below wr.heap.size wr z → Bk z (w.heap.size + 1) 53 (RA p R)) := Lib.hid fun z hz => r1.below hz r1.lt
            have HTOP : Hid (max E.top (w.heap.size + 4) ≤ wr.heap.size) := Lib.hid (@SlO.top (excB E w.heap.size 4) _ _ _ _ _ (r2 0 (by omega)))
            have HCALL : Hid (∀ z, Below wr.heap.size wr z → Calls Tryz.prog 45 #[.agg (plantA x p), .agg (RA p R), .agg #[.int .i64 v, .bool o]] z fun e w' => ∃ R', e = .returned (.tuple #[.agg (RA p R'), .int .i64 er]) ∧ @RefAt (excB E w.heap.size 4) w' w'.heap.size R' T' ∧ Below z.heap.size z w') := Lib.hid fun z hz => by
              have a1 : PlantAt z z.heap.size x p := (HP.out z (hu.out.1.below.trans (hz.mono (by omega)))).mono (by have := hz.size; omega)
              have a2 : @RefAt (excB E w.heap.size 4) z z.heap.size R U := by
                letI : Exc := excB E w.heap.size 4
                exact (RefAt.below r2 hz).mono hz.size
              have h := @refOrder_any (excB E w.heap.size 4) z x R U (by rw [HT0.out]; exact a1) a2 (by rw [HT0.out]; exact HSH.out) (by rw [HT0.out]; exact HNE.out) v o
              rw [HT0.out, RA_of HT0.out, her, hT'] at h
              refine h.mono ?_
              rintro e w' ⟨R', rfl, h1, h2⟩
              exact ⟨R', by rw [RA_of hTp], h1, h2⟩
            have HTP := Lib.hid hTp
            have HOK := Lib.hid hok
            have HNO := Lib.hid hno
            have hwl : w.heap.size + 4 ≤ wr.heap.size := hsz
            have hsq := Lib.hid hu.out.1
            rw [hA2] at d1
            clear hd hok hno r1 r2 hTp her hT' hA2 e0 e1 hsz
            go_wp2_with fail
            refine wp_region_steps (by kernel_rfl) (by kernel_rfl) (fun w1 => Below wr.heap.size wr w1) (NE E w.heap.size 4 T' 16)
              (fun ix u d w1 => (match ix with
                | 0 => u = .agg (plantA x p)
                | 1 => u = .agg (RA p R)
                | 2 => u = .pointer (some ⟨w.heap.size + 1 + 1, 0, none⟩)
                | 3 => u = .slice (some ⟨b, off, none⟩) n y.sc
                | 4 => u = .int .i64 i
                | 5 => u = .pointer (some ⟨b, off + i * 3, none⟩)
                | 6 => u = .pointer (some ⟨b, off + i * 3 + 1, none⟩)
                | 7 => u = .slice (some ⟨b2, off2, none⟩) nk (y.oc i)
                | 8 => u = .int .i64 k
                | 9 => u = .pointer (some ⟨b2, off2 + k * 2, none⟩)
                | 10 => u = .agg #[.int .i64 v, .bool o]
                | 11 => True
                | 12 => True
                | 13 => True
                | 14 => u = .int .i64 er
                | 15 => True
                | 16 => True
                | _ => u = .int .i64 er) ∧ NR E w.heap.size 4 p er T' 11 13 15 16 wr ix u d w1) (Below.refl _ _).drew (fun i j hij _ u d w1 w2 ⟨hr1, hr2⟩ _ he => ⟨hr1, hr2.keep hij he⟩) ?_ ?_
            · refine ⟨?_, ?_, ?_, ?_, ?_, ?_, ?_, ?_, ?_, ?_, ?_, ?_, ?_, ?_, ?_, ?_, ?_, ?_, trivial⟩
              · intro a w1 vs K HJ HK HD HN kk
                have e4 := HK 4 (by decide)
                exact wpo_loadS 27 (.tmp 4) rfl w.heap.size 0 (by simpa [Act.eval] using e4) (plantA x p) _ (fun j u hj => by rw [Nat.zero_add]; exact ((HPK.out w1 HJ).cell j).trans hj) und_plant rfl info_plant (kk _ _ (by simp) HJ (NE.same _ (by omega)) ⟨rfl, ⟨fun e => by omega, fun e => by omega, fun e => by omega, fun e => by omega⟩⟩)
              · intro a w1 vs K HJ HK HD HN kk
                have e5 := HK 5 (by decide)
                exact wpo_loadS 53 (.tmp 5) rfl (w.heap.size + 1) 0 (by simpa [Act.eval] using e5) (RA p R) _ (fun j u hj => by rw [Nat.zero_add]; exact ((HBSX.out w1 HJ).cell j).trans hj) und_state rfl info_state (kk _ _ (by simp) HJ (NE.same _ (by omega)) ⟨rfl, ⟨fun e => by omega, fun e => by omega, fun e => by omega, fun e => by omega⟩⟩)
              · intro a w1 vs K HJ HK HD HN kk
                have e6 := HK 6 (by decide)
                go_simp; exact kk _ _ (by simp) HJ (NE.same _ (by omega)) ⟨rfl, ⟨fun e => by omega, fun e => by omega, fun e => by omega, fun e => by omega⟩⟩
              · intro a w1 vs K HJ HK HD HN kk
                have e45 := (HD 2 _ 45 rfl rfl rfl).1.trans (HD 2 _ 45 rfl rfl rfl).2.1
                have ca := HSQ2.out w1 HJ
                go_simp; exact kk _ _ (by simp) HJ (NE.same _ (by omega)) ⟨rfl, ⟨fun e => by omega, fun e => by omega, fun e => by omega, fun e => by omega⟩⟩
              · intro a w1 vs K HJ HK HD HN kk
                have e10 := HK 10 (by decide)
                go_simp; exact kk _ _ (by simp) HJ (NE.same _ (by omega)) ⟨rfl, ⟨fun e => by omega, fun e => by omega, fun e => by omega, fun e => by omega⟩⟩
              · intro a w1 vs K HJ HK HD HN kk
                have e46 := (HD 3 _ 46 rfl rfl rfl).1.trans (HD 3 _ 46 rfl rfl rfl).2.1
                have e47 := (HD 4 _ 47 rfl rfl rfl).1.trans (HD 4 _ 47 rfl rfl rfl).2.1
                go_simp; exact kk _ _ (by simp) HJ (NE.same _ (by omega)) ⟨rfl, ⟨fun e => by omega, fun e => by omega, fun e => by omega, fun e => by omega⟩⟩
              · intro a w1 vs K HJ HK HD HN kk
                have e48 := (HD 5 _ 48 rfl rfl rfl).1.trans (HD 5 _ 48 rfl rfl rfl).2.1
                go_simp; exact kk _ _ (by simp) HJ (NE.same _ (by omega)) ⟨rfl, ⟨fun e => by omega, fun e => by omega, fun e => by omega, fun e => by omega⟩⟩
              · intro a w1 vs K HJ HK HD HN kk
                have e49 := (HD 6 _ 49 rfl rfl rfl).1.trans (HD 6 _ 49 rfl rfl rfl).2.1
                have ca := HD1.out w1 HJ
                go_simp; exact kk _ _ (by simp) HJ (NE.same _ (by omega)) ⟨rfl, ⟨fun e => by omega, fun e => by omega, fun e => by omega, fun e => by omega⟩⟩
              · intro a w1 vs K HJ HK HD HN kk
                have e11 := HK 11 (by decide)
                go_simp; exact kk _ _ (by simp) HJ (NE.same _ (by omega)) ⟨rfl, ⟨fun e => by omega, fun e => by omega, fun e => by omega, fun e => by omega⟩⟩
              · intro a w1 vs K HJ HK HD HN kk
                have e50 := (HD 7 _ 50 rfl rfl rfl).1.trans (HD 7 _ 50 rfl rfl rfl).2.1
                have e51 := (HD 8 _ 51 rfl rfl rfl).1.trans (HD 8 _ 51 rfl rfl rfl).2.1
                go_simp; exact kk _ _ (by simp) HJ (NE.same _ (by omega)) ⟨rfl, ⟨fun e => by omega, fun e => by omega, fun e => by omega, fun e => by omega⟩⟩
              · intro a w1 vs K HJ HK HD HN kk
                have e52 := (HD 9 _ 52 rfl rfl rfl).1.trans (HD 9 _ 52 rfl rfl rfl).2.1
                exact wpo_loadS 38 (.tmp 52) rfl b2 (off2 + k * 2) (by simpa [Act.eval] using e52) #[.int .i64 v, .bool o] _ (HORD.out w1 HJ) und_order rfl info_order (kk _ _ (by simp) HJ (NE.same _ (by omega)) ⟨rfl, ⟨fun e => by omega, fun e => by omega, fun e => by omega, fun e => by omega⟩⟩)
              · intro a w1 vs K HJ HK HD HN kk
                have e43 := (HD 0 _ 43 rfl rfl rfl).1.trans (HD 0 _ 43 rfl rfl rfl).2.1
                have e44 := (HD 1 _ 44 rfl rfl rfl).1.trans (HD 1 _ 44 rfl rfl rfl).2.1
                have e53 := (HD 10 _ 53 rfl rfl rfl).1.trans (HD 10 _ 53 rfl rfl rfl).2.1
                exact wpo_call 45 _ _ rfl #[.agg (plantA x p), .agg (RA p R), .agg #[.int .i64 v, .bool o]] (by simp [Act.eval, e43, e44, e53]) (fun args w => by kernel_rfl)
                  ((HCALL.out w1 HJ).mono fun e w' ⟨R', he, hr, hb⟩ => ⟨_, he, kk _ _ (by simp) (HJ.trans (hb.mono HJ.size)) (NE.below (by omega) hb) ⟨trivial, ⟨fun _ => ⟨R', rfl, hr⟩, fun e => by omega, fun e => by omega, fun e => by omega⟩⟩⟩)
              · intro a w1 vs K HJ HK HD HN kk
                obtain ⟨q6, r6⟩ := HD 11 _ 54 rfl rfl rfl
                obtain ⟨R', x1, x2⟩ := r6.2.1 (Or.inl rfl)
                exact wpo_move (.tmp 54) _ (Or.inl rfl) (by simpa [Act.eval] using q6.trans x1) (kk _ _ (by simp) HJ (NE.same _ (by omega)) ⟨trivial, ⟨fun _ => ⟨_, rfl, x2⟩, fun e => by omega, fun e => by omega, fun e => by omega⟩⟩)
              · intro a w1 vs K HJ HK HD HN kk
                obtain ⟨q7, r7⟩ := HD 12 _ 42 rfl rfl rfl
                obtain ⟨R', x1, x2⟩ := r7.2.1 (Or.inr rfl)
                have e42 := q7.trans x1
                clear x1 q7 r7
                go_simp; exact kk _ _ (by simp) HJ (NE.same _ (by omega)) ⟨trivial, ⟨fun e => by omega, fun _ => ⟨_, rfl, x2⟩, fun e => by omega, fun e => by omega⟩⟩
              · intro a w1 vs K HJ HK HD HN kk
                obtain ⟨q7, r7⟩ := HD 12 _ 42 rfl rfl rfl
                obtain ⟨R', x1, x2⟩ := r7.2.1 (Or.inr rfl)
                have e42 := q7.trans x1
                clear x1 x2 q7 r7
                go_simp; exact kk _ _ (by simp) HJ (NE.same _ (by omega)) ⟨rfl, ⟨fun e => by omega, fun e => by omega, fun e => by omega, fun e => by omega⟩⟩
              · intro a w1 vs K HJ HK HD HN kk
                go_simp; exact kk _ _ (by simp) (HJ.alloc HJ.size _) (NE.below (by omega) ((Below.refl _ _).alloc (Nat.le_refl _) _)) ⟨trivial, ⟨fun e => by omega, fun e => by omega, fun _ => ⟨_, rfl, HJ.size, nilR, 0, 0, 0, Bk.new _ _ _⟩, fun e => by omega⟩⟩
              · intro a w1 vs K HJ HK HD HN kk
                obtain ⟨q10, r10⟩ := HD 15 _ 12 rfl rfl rfl
                obtain ⟨nb, x1, x2, R0, ca, cb, cc, x3⟩ := r10.2.2.2.1 rfl
                obtain ⟨q8, r8⟩ := HD 13 _ 55 rfl rfl rfl
                obtain ⟨R', y1, y2⟩ := r8.2.2.1 rfl
                exact wpo_storeS 53 (.tmp 12) (.tmp 55) rfl rfl nb 0 (by simpa [Act.eval] using q10.trans x1) (RA p R') (by simpa [Act.eval] using q8.trans y1) 53 (refA R0 ca cb cc) x3 (by show 0 + 9 ≤ 9; omega) (refA_one _ _ _ _) info_state fun w2 hk2 ho2 => by
                  have hk3 : Bk w2 nb 53 (RA p R') := by rw [splA_all _ _ (by rw [RA, refA_size, refA_size])] at hk2; exact hk2
                  exact kk undef _ (by simp) (HJ.trans (ho2.below x2)) (NE.store (by have := HTOP.out; omega) x3 ho2 hk3) ⟨trivial, ⟨fun e => by omega, fun e => by omega, fun e => by omega, fun _ => ⟨R', nb, x1, y1, x2, hk3⟩⟩⟩
              · intro a w1 vs K HJ HK HD HN kk
                have e56 := (HD 14 _ 56 rfl rfl rfl).1.trans (HD 14 _ 56 rfl rfl rfl).2.1
                go_simp; exact kk _ _ (by simp) HJ (NE.same _ (by omega)) ⟨rfl, ⟨fun e => by omega, fun e => by omega, fun e => by omega, fun e => by omega⟩⟩
            · intro vs w6 hw6 hrr
              obtain ⟨R', y1, y2⟩ := (hrr 13 _ rfl).2.2.1 rfl
              obtain ⟨R2, nb, z1, z2, z3, z4⟩ := (hrr 16 _ rfl).2.2.2.2 rfl
              have z1' : vs 15 = .pointer (some ⟨nb, 0, none⟩) := z1
              have z2' : vs 13 = .agg (RA p R2) := z2
              have e17 : vs 17 = .int .i64 er := (hrr 17 _ rfl).1
              have hra : RA p R2 = RA p R' := by have := z2'.symm.trans y1; injection this
              rw [hra] at z4
              have HK6 := Lib.hid z4
              have HZ6 := Lib.hid hw6
              have HR6 := Lib.hid y2
              clear hrr z1 z2 z2' y1 hra z4 hw6 y2 z3 d0 d1 k0
              simp only [putAll, Act.put, List.setIfInBounds_toArray, List.set_cons_zero, List.set_cons_succ]
              rw [z1', e17]
              clear z1' e17
              by_cases e0 : er = 0
              · subst e0
                have HBX := Lib.hid (HBSX.out w6 HZ6.out)
                have HSTO : Hid (∀ w2, Bk w2 (w.heap.size + 1) 53 (RA p R') → Only (w.heap.size + 1) w6 w2 → StQ E W0 w.heap.size 4 (w.heap.size + 1) p Ex w2 T') := Lib.hid fun w2 h1 h2 => hsq.out.store HZ6.out HR6.out HTP.out h1 h2
                go_wp2_with (first
                  | (refine wpLoadAt rfl 53 _ rfl nb 0 rfl (RA p R') _ (fun j u hj => by rw [Nat.zero_add]; exact (HK6.out.cell j).trans hj) und_state rfl info_state ?_)
                  | (refine wpStoreAt rfl rfl 53 _ _ rfl (w.heap.size + 1) 0 rfl (RA p R') rfl 53 _ HBX.out (by rw [RA_size, RA_size]; omega) (RA_one _ _) info_state ?_; intro wf hkf hof; have HSF := Lib.hid (HSTO.out wf (by rw [RA_spl] at hkf; exact hkf) hof); clear hkf hof))
                go_roundw
                case rel => exact ⟨k + 1, T', by omega, by go_num, Lib.hid ⟨HSF.out, (HOK.out rfl).symm⟩⟩
                case measure => simp [intOf]; omega
              · have hG2 := hht.out (by rw [HNO.out e0])
                rw [HNO.out e0] at hG2
                obtain ⟨R3, q1, q2, q3⟩ := FIN.out w6 _ (hsq.out.later HZ6.out)
                have HQ1 := Lib.hid q1
                have HQ2 := Lib.hid q2
                have HQ3 := Lib.hid q3
                have HG2 := Lib.hid hG2
                clear hG2 q1 q2 q3
                go_wp2_with (first
                  | (refine wpLoadAt rfl 53 _ rfl (w.heap.size + 1) 0 rfl (RA p R3) _ (fun j u hj => by rw [Nat.zero_add]; exact (HQ1.out.cell j).trans hj) und_state rfl info_state ?_)
                  | (refine wpStoreAt rfl rfl 53 _ _ rfl (w.heap.size + 1 + 1 + 1) 0 rfl (RA p R3) rfl 53 _ HQ2.out (by rw [RA_size]; show 0 + 9 ≤ 9; omega) (RA_one _ _) info_state ?_; intro wf hkf hof))
                have hkf' : Bk wf (w.heap.size + 1 + 1 + 1) 53 (RA p R3) := by rw [splA_all _ _ (by rw [RA_size]; rfl)] at hkf; exact hkf
                refine bodyPost_ret (results_cellS_tmp rfl _ _ (w.heap.size + 1 + 1 + 1) 53 (RA p R3) _ rfl hkf' und_state rfl (by rw [RA_size]; exact info_state)) rfl ?_
                refine HPOST.out _ _ ⟨R3, ?_, ?_, (HQ3.out wf hof).2⟩
                · rw [← HG2.out]; rfl
                · rw [← HG2.out]; exact (HQ3.out wf hof).1
          · obtain rfl : k = nk := by omega
            have hend := hu.out.2
            rw [← HNK.out, giveB_end] at hend
            have hG3 := hst.out (by rw [← hend])
            rw [← hend] at hG3
            have HG3 : Hid (StQ E W0 w.heap.size 4 (w.heap.size + 1) p Ex wr U ∧ stepsF sq tick (n - (i + 1)) (i + 1) U = G) := Lib.hid ⟨hu.out.1, hG3⟩
            clear hend hG3
            go_wp2_with fail
            go_roundw
            case rel => exact ⟨i + 1, U, by omega, by go_num, HG3⟩
            case measure => simp [intOf]; omega
      · have hsk : stepsF sq tick (n - (i + 1)) (i + 1) T = G := by
          rw [← hgs]; show _ = (if _ then _ else _); rw [if_neg hat]
        have HSK : Hid (StQ E W0 w.heap.size 4 (w.heap.size + 1) p Ex wr T ∧ stepsF sq tick (n - (i + 1)) (i + 1) T = G) := Lib.hid ⟨hs.out.1, hsk⟩
        obtain ⟨at_, hat_⟩ : ∃ a, (sq.step i).at_ = a := ⟨_, rfl⟩
        rw [hat_] at hat
        have HAT_ := Lib.hid hat_
        have HAT := Lib.hid hat
        clear hgs hsk d0 d1 d2 hnk hA hat_ hat
        go_wp2_with fail
        clear k0
        go_loopw [11] (fun j wr => j = .int .i64 0 ∧ Hid (StQ E W0 w.heap.size 4 (w.heap.size + 1) p Ex wr T ∧ stepsF sq tick (n - (i + 1)) (i + 1) T = G)) (fun j _ => 0)
        case atStart => exact ⟨rfl, HSK⟩
        case round =>
          obtain ⟨rfl, hu⟩ := hrel
          have k0 := HSB.out wr T hu.out.1
          obtain ⟨d0, d1⟩ := HD.out wr hu.out.1.below
          rw [HAT_.out] at d0
          have hat := HAT.out
          by_cases hn0 : (0 : Int) < (nk : Int)
          · go_wp2_with fail
            go_roundw
            case rel => exact ⟨i + 1, T, by omega, by go_num, hu⟩
            case measure => simp [intOf]; omega
          · go_wp2_with fail
            go_roundw
            case rel => exact ⟨i + 1, T, by omega, by go_num, hu⟩
            case measure => simp [intOf]; omega
    · obtain rfl : i = n := by omega
      have hG2 : (T, none) = G := by have := hs.out.2; rw [Nat.sub_self] at this; exact this
      obtain ⟨R3, q1, q2, q3⟩ := FIN.out wr _ hs.out.1
      have HQ1 := Lib.hid q1
      have HQ2 := Lib.hid q2
      have HQ3 := Lib.hid q3
      have HG2 := Lib.hid hG2
      clear hG2 q1 q2 q3
      go_wp2_with (first
        | (refine wpLoadAt rfl 53 _ rfl (w.heap.size + 1) 0 rfl (RA p R3) _ (fun j u hj => by rw [Nat.zero_add]; exact (HQ1.out.cell j).trans hj) und_state rfl info_state ?_)
        | (refine wpStoreAt rfl rfl 53 _ _ rfl (w.heap.size + 1 + 1 + 1) 0 rfl (RA p R3) rfl 53 _ HQ2.out (by rw [RA_size]; show 0 + 9 ≤ 9; omega) (RA_one _ _) info_state ?_; intro wf hkf hof))
      have hkf' : Bk wf (w.heap.size + 1 + 1 + 1) 53 (RA p R3) := by rw [splA_all _ _ (by rw [RA_size]; rfl)] at hkf; exact hkf
      refine bodyPost_ret (results_cellS_tmp rfl _ _ (w.heap.size + 1 + 1 + 1) 53 (RA p R3) _ rfl hkf' und_state rfl (by rw [RA_size]; exact info_state)) rfl ?_
      refine HPOST.out _ _ ⟨R3, ?_, ?_, (HQ3.out wf hof).2⟩
      · rw [← HG2.out]; rfl
      · rw [← HG2.out]; exact (HQ3.out wf hof).1
end Go.Proofs.YtogobjmmgjfjjaaGreat
/- What is proved: a contract of the document's once: a tick of a run. Conditions: the plant, the state, the sequence, what goes wrong and the counts lie in memory; the sequence is valid. -/
namespace Go.Proofs.YtogobjmmgjfjjaaGreat
open Go.RowKit

section
variable {P : Program}
theorem results_cell_tmp_cell {fn : Func} {p u r : Tmp} {ty ty2 : TypeId} (h : fn.results = #[.cell p ty, .tmp u, .cell r ty2]) (tmps : Array Value) (w : World) (g g2 : Nat) (t t2 : TypeId) (cs cs2 : Array Value) (d d2 : TypeDesc)
    (hp : tmps.getD p undef = .pointer (some ⟨g, 0, none⟩)) (hg : Bk w g t cs) (hp2 : tmps.getD r undef = .pointer (some ⟨g2, 0, none⟩)) (hg2 : Bk w g2 t2 cs2)
    (hu : P.underlying ty = some d) (hd : (match d with | .struct _ | .array _ _ => true | _ => false) = true) (hi : (P.info? ty).map (·.size) = some cs.size)
    (hu2 : P.underlying ty2 = some d2) (hd2 : (match d2 with | .struct _ | .array _ _ => true | _ => false) = true) (hi2 : (P.info? ty2).map (·.size) = some cs2.size) :
    (results fn tmps).run P w = .ok (.tuple #[.agg cs, tmps.getD u undef, .agg cs2]) w := by
  have hl := run_loadVar_at (P := P) w g 0 ty cs d (fun j v hj => by rw [Nat.zero_add, hg.cell]; exact hj) hu hd hi
  have hl2 := run_loadVar_at (P := P) w g2 0 ty2 cs2 d2 (fun j v hj => by rw [Nat.zero_add, hg2.cell]; exact hj) hu2 hd2 hi2
  have hp' : tmps[p]?.getD undef = .pointer (some ⟨g, 0, none⟩) := by simpa using hp
  have hp2' : tmps[r]?.getD undef = .pointer (some ⟨g2, 0, none⟩) := by simpa using hp2
  simp [results, h, hp', hp2', asAddr, hl, hl2]
theorem results_cell_cell_tmp {fn : Func} {p u r : Tmp} {ty ty2 : TypeId} (h : fn.results = #[.cell p ty, .cell r ty2, .tmp u]) (tmps : Array Value) (w : World) (g g2 : Nat) (t t2 : TypeId) (cs cs2 : Array Value) (d d2 : TypeDesc)
    (hp : tmps.getD p undef = .pointer (some ⟨g, 0, none⟩)) (hg : Bk w g t cs) (hp2 : tmps.getD r undef = .pointer (some ⟨g2, 0, none⟩)) (hg2 : Bk w g2 t2 cs2)
    (hu : P.underlying ty = some d) (hd : (match d with | .struct _ | .array _ _ => true | _ => false) = true) (hi : (P.info? ty).map (·.size) = some cs.size)
    (hu2 : P.underlying ty2 = some d2) (hd2 : (match d2 with | .struct _ | .array _ _ => true | _ => false) = true) (hi2 : (P.info? ty2).map (·.size) = some cs2.size) :
    (results fn tmps).run P w = .ok (.tuple #[.agg cs, .agg cs2, tmps.getD u undef]) w := by
  have hl := run_loadVar_at (P := P) w g 0 ty cs d (fun j v hj => by rw [Nat.zero_add, hg.cell]; exact hj) hu hd hi
  have hl2 := run_loadVar_at (P := P) w g2 0 ty2 cs2 d2 (fun j v hj => by rw [Nat.zero_add, hg2.cell]; exact hj) hu2 hd2 hi2
  have hp' : tmps[p]?.getD undef = .pointer (some ⟨g, 0, none⟩) := by simpa using hp
  have hp2' : tmps[r]?.getD undef = .pointer (some ⟨g2, 0, none⟩) := by simpa using hp2
  simp [results, h, hp', hp2', asAddr, hl, hl2]
end

/-- A store into one of the boxes keeps a list. -/
theorem SlO.stay {E : Exc} {w1 w2 : World} {lo q g : Nat} {A : Option Addr} {n : Nat} {f : Nat → Nat → Value} (g1 : @SlO (excB E lo q) w1 (· < w1.heap.size) A n f) (ho : Only g w1 w2) (h1 : lo ≤ g) (h2 : g < lo + q) : @SlO (excB E lo q) w2 (· < w2.heap.size) A n f := by
  have g2 := @SlO.sl (excB E lo q) _ _ _ _ _ g1
  refine @SlO.mk (excB E lo q) w2 _ _ _ _ ⟨g2.1, fun hn => ?_⟩ (by rw [ho.size]; exact @SlO.top (excB E lo q) _ _ _ _ _ g1) (@SlO.out (excB E lo q) _ _ _ _ _ g1)
  obtain ⟨b, off, e, hD, hc⟩ := g2.2 hn
  have hne : b ≠ g := fun hh => @SlO.out (excB E lo q) _ _ _ _ _ g1 b off hn e (Or.inr (by omega))
  exact ⟨b, off, e, by rw [ho.size]; exact hD, fun i hi j hj => (World.cell?_of_block (ho.block b hne)).trans (hc i hi j hj)⟩
/-- At a function's entry. -/
theorem SlO.boxed {E : Exc} {w W : World} {q : Nat} {A : Option Addr} {n : Nat} {f : Nat → Nat → Value} (h1 : @SlO E w (· < w.heap.size) A n f) (hb : Below w.heap.size w W) (hz : w.heap.size + q ≤ W.heap.size) : @SlO (excB E w.heap.size q) W (· < W.heap.size) A n f := by
  have h2 := @SlO.sl E _ _ _ _ _ h1
  have h3 : E.top ≤ w.heap.size := @SlO.top E _ _ _ _ _ h1
  refine @SlO.mk (excB E w.heap.size q) W _ _ _ _ ((h2.keep fun b hb' => hb.block b hb').mono fun b hb' => ?_) (by show max E.top (w.heap.size + q) ≤ _; omega) (fun b off hn e hx => ?_)
  · have hb2 : b < w.heap.size := hb'; omega
  · rcases hx with hx | hx
    · exact @SlO.out E _ _ _ _ _ h1 b off hn e hx
    · obtain ⟨b', off', e', hD, _⟩ := h2.2 hn
      rw [e] at e'
      have e2 : b = b' := by injection e' with e'; injection e'
      have hD' : b < w.heap.size := by rw [e2]; exact hD
      omega
theorem SlO.later {E : Exc} {w w1 : World} {A : Option Addr} {n : Nat} {f : Nat → Nat → Value} (h : @SlO E w (· < w.heap.size) A n f) (hb : Below w.heap.size w w1) : @SlO E w1 (· < w1.heap.size) A n f :=
  (h.keep (fun b hb' => hb.block b hb') hb.size).mono fun b hb' => by have := hb.size; have h2 : b < w.heap.size := hb'; omega
/-- Counts. -/
def cntF (c : Nat → Int) : Nat → Nat → Value := fun i _ => .int .i64 (c i)
theorem SlO.cnt {E : Exc} {w : World} {A : Option Addr} {n : Nat} {c d : Nat → Int} (h : @SlO E w (· < w.heap.size) A n (cntF c)) (hc : ∀ i, i < n → c i = d i) : @SlO E w (· < w.heap.size) A n (cntF d) := by
  refine @SlO.mk E w _ _ _ _ ⟨(@SlO.sl E _ _ _ _ _ h).1, fun hn => ?_⟩ (@SlO.top E _ _ _ _ _ h) (@SlO.out E _ _ _ _ _ h)
  obtain ⟨b, off, e, hD, hx⟩ := (@SlO.sl E _ _ _ _ _ h).2 hn
  exact ⟨b, off, e, hD, fun i hi j hj => by rw [hx i hi j hj]; unfold cntF; rw [hc i hi]⟩
/-- What 'with' makes is a list of counts, too. -/
theorem SlO.withC {E : Exc} {w w' : World} {A : Option Addr} {n : Nat} {c : Nat → Int} (ht : E.top ≤ w.heap.size) (hb : Below w.heap.size w w') (h : SlD w' (fun b => w.heap.size ≤ b ∧ b < w'.heap.size) 1 A n fun k _ => .int .i64 (c k)) : @SlO E w' (· < w'.heap.size) A n (cntF c) :=
  @SlO.of_new E w' _ _ A n (cntF c) h (by have := hb.size; omega) fun b hb' => ⟨hb'.2, by omega⟩

/-- What is left by the operations of 's, step := ordered(p, wrong(p, s, l, tick), q, tick)': c0 the first call, c the second, s the state taken out of what it handed back, m the store. -/
def OE (E : Exc) (lo q : Nat) (m j : Nat) (w1 w2 : World) : Prop :=
  (j ≠ m → Below w1.heap.size w1 w2) ∧ (j = m → ∀ T R', @RefAt (excB E lo q) w1 w1.heap.size R' T → @RefAt (excB E lo q) w2 w2.heap.size R' T)
def OR (E : Exc) (lo q : Nat) (p : PlantD) (er : Int) (T1 T : Sys) (c0 c s : Nat) (ix : Nat) (u : Value) (w1 : World) : Prop :=
  (ix = c0 → ∃ R', u = .agg (RA p R') ∧ @RefAt (excB E lo q) w1 w1.heap.size R' T1) ∧
  (ix = c ∨ ix = c + 1 → ∃ R', u = .tuple #[.agg (RA p R'), .int .i64 er] ∧ @RefAt (excB E lo q) w1 w1.heap.size R' T) ∧ (ix = s → ∃ R', u = .agg (RA p R') ∧ @RefAt (excB E lo q) w1 w1.heap.size R' T)
theorem OR.keep {E : Exc} {lo q : Nat} {p : PlantD} {T1 T : Sys} {w1 w2 : World} {er : Int} {m i j c0 c s : Nat} {u : Value} (h : OR E lo q p er T1 T c0 c s i u w1) (he : OE E lo q m j w1 w2) : OR E lo q p er T1 T c0 c s i u w2 := by
  letI : Exc := excB E lo q
  obtain ⟨h0, h1, h2⟩ := h
  by_cases hj : j = m
  · have k1 := he.2 hj
    refine ⟨fun e => ?_, fun e => ?_, fun e => ?_⟩
    · obtain ⟨R', a, b⟩ := h0 e; exact ⟨R', a, k1 _ R' b⟩
    · obtain ⟨R', a, b⟩ := h1 e; exact ⟨R', a, k1 _ R' b⟩
    · obtain ⟨R', a, b⟩ := h2 e; exact ⟨R', a, k1 _ R' b⟩
  · have hb := he.1 hj
    refine ⟨fun e => ?_, fun e => ?_, fun e => ?_⟩
    · obtain ⟨R', a, b⟩ := h0 e; exact ⟨R', a, (RefAt.below b hb).mono hb.size⟩
    · obtain ⟨R', a, b⟩ := h1 e; exact ⟨R', a, (RefAt.below b hb).mono hb.size⟩
    · obtain ⟨R', a, b⟩ := h2 e; exact ⟨R', a, (RefAt.below b hb).mono hb.size⟩
theorem OE.same {E : Exc} {lo q : Nat} {m : Nat} (w : World) {j : Nat} (hj : j ≠ m) : OE E lo q m j w w := ⟨fun _ => Below.refl _ _, fun h => absurd h hj⟩
theorem OE.below {E : Exc} {lo q : Nat} {m : Nat} {w w' : World} {j : Nat} (hj : j ≠ m) (hb : Below w.heap.size w w') : OE E lo q m j w w' := ⟨fun _ => hb, fun h => absurd h hj⟩
theorem OE.store {E : Exc} {lo q g : Nat} {m : Nat} {w w' : World} (h1 : lo ≤ g) (h2 : g < lo + q) (ho : Only g w w') : OE E lo q m m w w' := ⟨fun e => absurd rfl e, fun _ _ _ hr => hr.stay ho h1 h2⟩

theorem dissB_kinds {p : PlantD} {l : List DisD} (h : dissB p l = true) : ∀ i, i < l.length → (l.getD i dis0).kind = 0 ∨ (l.getD i dis0).kind = 1 := fun i hi => by
  unfold dissB at h
  rw [Bool.and_eq_true] at h
  have h1 := allN_iff.1 h.2 i hi
  unfold disOk at h1
  simp only [Bool.and_eq_true] at h1
  have h2 := inB_iff.1 h1.1.1.2
  omega
def moreK (q : SeqD) (tick : Int) (n : Nat) : Bool := !(allN n fun i => !decide (tick < (q.step i).at_))
theorem moreK_zero (q : SeqD) (tick : Int) : moreK q tick 0 = false := by
  unfold moreK
  rw [show (allN 0 fun i => !decide (tick < (q.step i).at_)) = true from allN_iff.2 fun i hi => absurd hi (by omega)]; rfl
theorem moreK_step (q : SeqD) (tick : Int) (n : Nat) : moreK q tick (n + 1) = (moreK q tick n || decide (tick < (q.step n).at_)) := by
  unfold moreK
  rw [Bool.eq_iff_iff]
  constructor
  · intro h
    cases h1 : (allN n fun i => !decide (tick < (q.step i).at_)) with
    | false => rfl
    | true =>
      cases h2 : decide (tick < (q.step n).at_) with
      | true => rfl
      | false =>
        have : (allN (n + 1) fun i => !decide (tick < (q.step i).at_)) = true := allN_iff.2 fun i hi => by
          by_cases e : i = n
          · subst e; rw [h2]; rfl
          · exact allN_iff.1 h1 i (by omega)
        rw [this] at h; cases h
  · intro h
    cases h1 : (allN (n + 1) fun i => !decide (tick < (q.step i).at_)) with
    | false => rfl
    | true =>
      have h2 := allN_iff.1 h1
      have h3 : (allN n fun i => !decide (tick < (q.step i).at_)) = true := allN_iff.2 fun i hi => h2 i (by omega)
      have h4 := h2 n (by omega)
      rw [h3] at h
      simp at h h4
      omega
theorem mix_kept2 {T : Sys} {q : SeqD} {c : Nat → Int} {k : Nat} (h : keptB T (q.red k).need = true) (i : Nat) : (if i = k then 0 else mixC c (countB T q c) k i) = mixC c (countB T q c) (k + 1) i := by
  unfold mixC
  by_cases e : i = k
  · subst e; rw [if_pos rfl, if_pos (by omega)]; unfold countB; rw [if_pos h]
  · rw [if_neg e]
    by_cases h2 : i < k
    · rw [if_pos h2, if_pos (by omega)]
    · rw [if_neg h2, if_neg (by omega)]
theorem und_seqW : Tryz.prog.underlying 43 = some (.struct (match Tryz.prog.underlying 43 with | some (.struct f) => f | _ => #[])) := by kernel_rfl
theorem info_seqW : (Tryz.prog.info? 43).map (·.size) = some 3 := by kernel_rfl
/-- The document's once. -/
def OncePost (w : World) (n : Nat) (o : OnceD) [Exc] (e : Ending) (w' : World) : Prop :=
  ∃ R' A' c', e = .returned (.tuple #[.agg (SysA R' o.s), .slice A' n c', .agg (endA o.e)]) ∧ RefAt w' w'.heap.size R' o.s ∧ SlO w' (· < w'.heap.size) A' n (cntF o.c) ∧ Below w.heap.size w w'

set_option maxRecDepth 100000 in
set_option maxHeartbeats 16000000 in
theorem refOnce_any [E : Exc] (w : World) (x : PV) (R0 : RX) (S : Sys) (hp : PlantAt w w.heap.size x S.p) (hr : RefAt w w.heap.size R0 S) (ok : SysOk S) (y : QV) (sq : SeqD) (hq : SeqAt w w.heap.size y sq) (hv : seqB S.p sq = true) (A : Option Addr) (c : Nat) (l : List DisD) (hl : DisAt w w.heap.size A l) (hkd : ∀ i, i < l.length → (l.getD i dis0).kind = 0 ∨ (l.getD i dis0).kind = 1) (tick : Int)
    (CA : Option Addr) (cc : Nat) (C : Nat → Int) (hC : SlO w (· < w.heap.size) CA sq.reds.length (cntF C)) (hcr : ∀ i, 0 ≤ C i ∧ C i ≤ 20000) :
    Calls Tryz.prog 105 #[.agg (plantA x S.p), .agg (SysA R0 S), .agg (seqA y sq), .slice A l.length c, .int .i64 tick, .slice CA sq.reds.length cc] w (OncePost w sq.reds.length (onceB sq l tick S C)) := by
  obtain ⟨W0, hW⟩ : ∃ W0, W0 = ((((w.alloc (.cells (plantA x S.p) 27)).alloc (.cells (SysA R0 S) 53)).alloc (.cells (seqA y sq) 43)).alloc (.cells (refA nilR 0 0 0) 53)).alloc (.cells (endA end0) 85) := ⟨_, rfl⟩
  have hbW : Below w.heap.size w W0 := by rw [hW]; exact (((((Below.refl _ _).alloc (Nat.le_refl _) _).alloc (by simp) _).alloc (by simp; omega) _).alloc (by simp; omega) _).alloc (by simp; omega) _
  have hWs : W0.heap.size = w.heap.size + 5 := by rw [hW]; simp
  have hb0 : Bk W0 w.heap.size 27 (plantA x S.p) := by rw [hW]; exact ((((Bk.new _ _ _).alloc _).alloc _).alloc _).alloc _
  have hb1 : Bk W0 (w.heap.size + 1) 53 (SysA R0 S) := by rw [hW]; exact (((Bk.newAt _ _ _ _ (by simp)).alloc _).alloc _).alloc _
  have hb2 : Bk W0 (w.heap.size + 1 + 1) 43 (seqA y sq) := by rw [hW]; exact ((Bk.newAt _ _ _ _ (by simp)).alloc _).alloc _
  have hb3 : Bk W0 (w.heap.size + 1 + 1 + 1) 53 (refA nilR 0 0 0) := by rw [hW]; exact (Bk.newAt _ _ _ _ (by simp)).alloc _
  have hb4 : Bk W0 (w.heap.size + 1 + 1 + 1 + 1) 85 (endA end0) := by rw [hW]; exact Bk.newAt _ _ _ _ (by simp)
  obtain ⟨p, hSp⟩ : ∃ p, S.p = p := ⟨_, rfl⟩
  obtain ⟨Ex, hEx⟩ : ∃ Ex : List (Nat × TypeId × Array Value), Ex = [(w.heap.size, 27, plantA x p), (w.heap.size + 1 + 1, 43, seqA y sq), (w.heap.size + 1 + 1 + 1, 53, refA nilR 0 0 0), (w.heap.size + 1 + 1 + 1 + 1, 85, endA end0)] := ⟨_, rfl⟩
  have HS0 : Hid (StQ E W0 w.heap.size 5 (w.heap.size + 1) p Ex W0 S) := Lib.hid ⟨⟨R0, by rw [← RA_of hSp]; exact hb1, RefAt.boxed hr hbW (by omega)⟩, hSp, Below.refl _ _, by omega, by omega, by omega, fun e he => by
    rw [hEx] at he
    simp only [List.mem_cons, List.not_mem_nil, or_false] at he
    rcases he with rfl | rfl | rfl | rfl
    · exact ⟨by show w.heap.size ≠ _; omega, by rw [← hSp]; exact hb0⟩
    · exact ⟨by show w.heap.size + 1 + 1 ≠ _; omega, hb2⟩
    · exact ⟨by show w.heap.size + 1 + 1 + 1 ≠ _; omega, hb3⟩
    · exact ⟨by show w.heap.size + 1 + 1 + 1 + 1 ≠ _; omega, hb4⟩⟩
  have HPB : Hid (∀ z T, StQ E W0 w.heap.size 5 (w.heap.size + 1) p Ex z T → Bk z w.heap.size 27 (plantA x p) ∧ Bk z (w.heap.size + 1 + 1) 43 (seqA y sq) ∧ Bk z (w.heap.size + 1 + 1 + 1) 53 (refA nilR 0 0 0) ∧ Bk z (w.heap.size + 1 + 1 + 1 + 1) 85 (endA end0)) := Lib.hid fun z T h =>
    ⟨(h.ex (w.heap.size, 27, plantA x p) (by rw [hEx]; simp)).2, (h.ex (w.heap.size + 1 + 1, 43, seqA y sq) (by rw [hEx]; simp)).2, (h.ex (w.heap.size + 1 + 1 + 1, 53, refA nilR 0 0 0) (by rw [hEx]; simp)).2, (h.ex (w.heap.size + 1 + 1 + 1 + 1, 85, endA end0) (by rw [hEx]; simp)).2⟩
  have HQ : Hid (∀ z, Below w.heap.size W0 z → SeqAt z w.heap.size y sq) := Lib.hid fun z hz => (hq.below hbW).below hz
  have HL : Hid (∀ z, Below w.heap.size W0 z → DisAt z w.heap.size A l) := Lib.hid fun z hz => Sl.below (Sl.below hl hbW) hz
  have HP : Hid (∀ z, Below w.heap.size W0 z → PlantAt z w.heap.size x p) := Lib.hid fun z hz => by rw [← hSp]; exact (hp.below hbW).below hz
  have HC0 : Hid (@SlO (excB E w.heap.size 5) W0 (· < W0.heap.size) CA sq.reds.length (cntF C)) := Lib.hid (SlO.boxed hC hbW (by omega))
  have HV : Hid (seqB p sq = true) := Lib.hid (by rw [← hSp]; exact hv)
  have HSP := Lib.hid hSp
  have HB := Lib.hid hbW
  have HKD := Lib.hid hkd
  have HCR := Lib.hid hcr
  have HW := Lib.hid hW
  have HWS := Lib.hid hWs
  have hred := (seqB_lens hv).2
  have hstp := (seqB_lens hv).1
  obtain ⟨n, hn⟩ : ∃ n, sq.reds.length = n := ⟨_, rfl⟩
  obtain ⟨ns, hns⟩ : ∃ n, sq.steps.length = n := ⟨_, rfl⟩
  obtain ⟨T1, hT1⟩ : ∃ T1, wrongB S l tick = T1 := ⟨_, rfl⟩
  obtain ⟨SF, hSF⟩ : ∃ SF, stepsF sq tick ns 0 T1 = SF := ⟨_, rfl⟩
  have hk1 : Keeps S T1 := by rw [← hT1]; exact wrongK_keeps S l tick l.length
  have hk2 : Keeps T1 SF.1 := by rw [← hSF]; exact stepsF_keeps sq tick ns 0 T1
  have ok1 : SysOk T1 := hk1.2 ok
  have okF : SysOk SF.1 := hk2.2 ok1
  have hp1 : T1.p = p := by rw [hk1.1]; exact hSp
  have hpF : SF.1.p = p := by rw [hk2.1]; exact hp1
  have HOK1 := Lib.hid ok1
  have HOKF := Lib.hid okF
  have HP1 := Lib.hid hp1
  have HPF := Lib.hid hpF
  have HSQ : Hid (stepsF sq tick sq.steps.length 0 (wrongB S l tick) = SF) := Lib.hid (by rw [hns, hT1]; exact hSF)
  have HSFD : Hid (stepsF sq tick sq.steps.length 0 T1 = SF) := Lib.hid (by rw [hns]; exact hSF)
  obtain ⟨O, hO⟩ : ∃ O, onceB sq l tick S C = O := ⟨_, rfl⟩
  have HO := Lib.hid hO
  have HWR : Hid (∀ z, Below W0.heap.size W0 z → Calls Tryz.prog 153 #[.agg (plantA x p), .agg (RA p R0), .slice A l.length c, .int .i64 tick] z fun e w' => ∃ R', e = .returned (.agg (RA p R')) ∧ @RefAt (excB E w.heap.size 5) w' w'.heap.size R' T1 ∧ Below z.heap.size z w') := Lib.hid fun z hz => by
    have hz2 : Below w.heap.size W0 z := hz.mono (by omega)
    have a2 : @RefAt (excB E w.heap.size 5) z z.heap.size R0 S := by
      letI : Exc := excB E w.heap.size 5
      exact (RefAt.below (RefAt.boxed hr hbW (by omega)) hz).mono hz.size
    have hzs := hz.size
    have h := @refWrong_any (excB E w.heap.size 5) z x R0 S (by rw [hSp]; exact (HP.out z hz2).mono (by omega)) a2 ok A c l (Sl.mono (HL.out z hz2) (by omega)) hkd tick
    rw [hT1, hSp, RA_of hSp] at h
    refine h.mono ?_
    rintro e w' ⟨R', rfl, h1, h2⟩
    exact ⟨R', by rw [RA_of hp1], h1, h2⟩
  have HOD : Hid (∀ z R1, Below W0.heap.size W0 z → @RefAt (excB E w.heap.size 5) z z.heap.size R1 T1 → Calls Tryz.prog 152 #[.agg (plantA x p), .agg (RA p R1), .agg (seqA y sq), .int .i64 tick] z fun e w' => ∃ R', e = .returned (.tuple #[.agg (RA p R'), .int .i64 (idxI SF.2)]) ∧ @RefAt (excB E w.heap.size 5) w' w'.heap.size R' SF.1 ∧ Below z.heap.size z w') := Lib.hid fun z R1 hz hr1 => by
    have hz2 : Below w.heap.size W0 z := hz.mono (by omega)
    have hzs := hz.size
    have h := @refOrdered_any (excB E w.heap.size 5) z x R1 T1 (by rw [hp1]; exact (HP.out z hz2).mono (by omega)) hr1 ok1 y sq ((HQ.out z hz2).mono (by omega)) tick
    rw [hp1, RA_of hp1] at h
    refine h.mono ?_
    rintro e w' ⟨R', rfl, h1, h2⟩
    rw [HSFD.out] at h1 ⊢
    exact ⟨R', by rw [RA_of hpF], h1, h2⟩
  obtain ⟨er, her⟩ : ∃ er, idxI SF.2 = er := ⟨_, rfl⟩
  rw [her] at HOD
  have HER := Lib.hid her
  have HPOST : Hid (∀ e w', (∃ R' A' c', e = .returned (.tuple #[.agg (RA p R'), .slice A' n c', .agg (endA O.e)]) ∧ RefAt w' w'.heap.size R' O.s ∧ SlO w' (· < w'.heap.size) A' n (cntF O.c) ∧ Below w.heap.size w w') → OncePost w n O e w') := Lib.hid fun e w' ⟨R', A', c', h1, h2, h3, h4⟩ => by
    have hOp : O.s.p = p := by rw [← hO, (onceB_keeps sq l tick S C).1]; exact hSp
    exact ⟨R', A', c', by rw [RA_of hOp]; exact h1, h2, h3, h4⟩
  have HBSX : Hid (∀ z, Below W0.heap.size W0 z → Bk z (w.heap.size + 1) 53 (RA p R0)) := Lib.hid fun z hz => by rw [← RA_of hSp]; exact hb1.below hz hb1.lt
  have HPK : Hid (∀ z, Below W0.heap.size W0 z → Bk z w.heap.size 27 (plantA x p)) := Lib.hid fun z hz => (HPB.out z _ (HS0.out.later hz)).1
  have HQK : Hid (∀ z, Below W0.heap.size W0 z → Bk z (w.heap.size + 1 + 1) 43 (seqA y sq)) := Lib.hid fun z hz => (HPB.out z _ (HS0.out.later hz)).2.1
  have HSTO : Hid (∀ w1, Below W0.heap.size W0 w1 → ∀ R', @RefAt (excB E w.heap.size 5) w1 w1.heap.size R' SF.1 → ∀ w2, Bk w2 (w.heap.size + 1) 53 (RA p R') → Only (w.heap.size + 1) w1 w2 → StQ E W0 w.heap.size 5 (w.heap.size + 1) p Ex w2 SF.1 ∧ @SlO (excB E w.heap.size 5) w2 (· < w2.heap.size) CA n (cntF C)) := Lib.hid fun w1 h1 R' hr w2 h2 h3 =>
    ⟨HS0.out.store h1 hr hpF h2 h3, by rw [← hn]; exact (HC0.out.later h1).stay h3 (by omega) (by omega)⟩
  rw [hO]
  rw [hSp, RA_of hSp] at HW ⊢
  have HN := Lib.hid hn
  have HNS := Lib.hid hns
  simp only [plantA, RA, refA, nilR, seqA, endA, end0] at HW
  simp only [plantA, RA, refA, seqA]
  rw [hn] at HW hred ⊢
  rw [hns] at HW hstp ⊢
  have hW8 : w.heap.size + 5 ≤ W0.heap.size := by omega
  clear hp hr ok hq hcr hW hbW hWs hb0 hb1 hb2 hb3 hb4 hSp hEx hn hns hT1 hSF hk1 hk2 ok1 okF hp1 hpF hO hv hl hC hkd her
  go_enter Tryz.func105, Tryz.ntmps105
  go_wp2_with fail
  rw [← HW.out]
  refine wp_region_stepsM (by kernel_rfl) (by kernel_rfl) 12 (by decide) (fun bq w1 => if bq = true then StQ E W0 w.heap.size 5 (w.heap.size + 1) p Ex w1 SF.1 ∧ @SlO (excB E w.heap.size 5) w1 (· < w1.heap.size) CA n (cntF C) else Below W0.heap.size W0 w1) (OE E w.heap.size 5 12)
    (fun ix u d w1 => (match ix with
      | 0 => u = .agg (plantA x p)
      | 1 => u = .agg (plantA x p)
      | 2 => u = .agg (RA p R0)
      | 3 => u = .slice A l.length c
      | 4 => u = .int .i64 tick
      | 5 => True
      | 6 => u = .agg (seqA y sq)
      | 7 => u = .int .i64 tick
      | 8 => True
      | 9 => True
      | 10 => True
      | 11 => u = .int .i64 er
      | 12 => True
      | _ => u = .int .i64 er) ∧ OR E w.heap.size 5 p er T1 SF.1 5 8 10 ix u w1) (Below.refl _ _).drew (fun i j _ _ u d w1 w2 ⟨hr1, hr2⟩ he => ⟨hr1, hr2.keep he⟩) ?_ ?_
  · refine ⟨?_, ?_, ?_, ?_, ?_, ?_, ?_, ?_, ?_, ?_, ?_, ?_, ?_, ?_, trivial⟩
    · intro a w1 vs K bq Hb HJ HK HD HN kk
      obtain rfl : bq = false := by cases bq with | false => rfl | true => exact absurd (Hb rfl).2 (by decide)
      have HJ' : Below W0.heap.size W0 w1 := HJ
      have e6 := HK 6 (by decide)
      exact wpo_loadS 27 (.tmp 6) rfl w.heap.size 0 (by simpa [Act.eval] using e6) (plantA x p) _ (fun j u hj => by rw [Nat.zero_add]; exact ((HPK.out w1 HJ').cell j).trans hj) und_plant rfl info_plant (kk _ _ (by simp) HJ (OE.same _ (by omega)) ⟨rfl, ⟨fun e => by omega, fun e => by omega, fun e => by omega⟩⟩)
    · intro a w1 vs K bq Hb HJ HK HD HN kk
      obtain rfl : bq = false := by cases bq with | false => rfl | true => exact absurd (Hb rfl).2 (by decide)
      have HJ' : Below W0.heap.size W0 w1 := HJ
      have e6 := HK 6 (by decide)
      exact wpo_loadS 27 (.tmp 6) rfl w.heap.size 0 (by simpa [Act.eval] using e6) (plantA x p) _ (fun j u hj => by rw [Nat.zero_add]; exact ((HPK.out w1 HJ').cell j).trans hj) und_plant rfl info_plant (kk _ _ (by simp) HJ (OE.same _ (by omega)) ⟨rfl, ⟨fun e => by omega, fun e => by omega, fun e => by omega⟩⟩)
    · intro a w1 vs K bq Hb HJ HK HD HN kk
      obtain rfl : bq = false := by cases bq with | false => rfl | true => exact absurd (Hb rfl).2 (by decide)
      have HJ' : Below W0.heap.size W0 w1 := HJ
      have e7 := HK 7 (by decide)
      exact wpo_loadS 53 (.tmp 7) rfl (w.heap.size + 1) 0 (by simpa [Act.eval] using e7) (RA p R0) _ (fun j u hj => by rw [Nat.zero_add]; exact ((HBSX.out w1 HJ').cell j).trans hj) und_state rfl info_state (kk _ _ (by simp) HJ (OE.same _ (by omega)) ⟨rfl, ⟨fun e => by omega, fun e => by omega, fun e => by omega⟩⟩)
    · intro a w1 vs K bq Hb HJ HK HD HN kk
      obtain rfl : bq = false := by cases bq with | false => rfl | true => exact absurd (Hb rfl).2 (by decide)
      have HJ' : Below W0.heap.size W0 w1 := HJ
      have e3 := HK 3 (by decide)
      go_simp; exact kk _ _ (by simp) HJ (OE.same _ (by omega)) ⟨rfl, ⟨fun e => by omega, fun e => by omega, fun e => by omega⟩⟩
    · intro a w1 vs K bq Hb HJ HK HD HN kk
      obtain rfl : bq = false := by cases bq with | false => rfl | true => exact absurd (Hb rfl).2 (by decide)
      have HJ' : Below W0.heap.size W0 w1 := HJ
      have e4 := HK 4 (by decide)
      go_simp; exact kk _ _ (by simp) HJ (OE.same _ (by omega)) ⟨rfl, ⟨fun e => by omega, fun e => by omega, fun e => by omega⟩⟩
    · intro a w1 vs K bq Hb HJ HK HD HN kk
      obtain rfl : bq = false := by cases bq with | false => rfl | true => exact absurd (Hb rfl).2 (by decide)
      have HJ' : Below W0.heap.size W0 w1 := HJ
      have e23 := (HD 1 _ 23 rfl rfl rfl).1.trans (HD 1 _ 23 rfl rfl rfl).2.1
      have e24 := (HD 2 _ 24 rfl rfl rfl).1.trans (HD 2 _ 24 rfl rfl rfl).2.1
      have e25 := (HD 3 _ 25 rfl rfl rfl).1.trans (HD 3 _ 25 rfl rfl rfl).2.1
      have e26 := (HD 4 _ 26 rfl rfl rfl).1.trans (HD 4 _ 26 rfl rfl rfl).2.1
      exact wpo_call 153 _ _ rfl #[.agg (plantA x p), .agg (RA p R0), .slice A l.length c, .int .i64 tick] (by simp [Act.eval, e23, e24, e25, e26]) (fun args w => by kernel_rfl)
        ((HWR.out w1 HJ').mono fun e w' ⟨R', he, hr, hb⟩ => ⟨_, he, kk _ _ (by simp) (HJ'.trans (hb.mono HJ'.size)) (OE.below (by omega) hb) ⟨trivial, ⟨fun _ => ⟨R', rfl, hr⟩, fun e => by omega, fun e => by omega⟩⟩⟩)
    · intro a w1 vs K bq Hb HJ HK HD HN kk
      obtain rfl : bq = false := by cases bq with | false => rfl | true => exact absurd (Hb rfl).2 (by decide)
      have HJ' : Below W0.heap.size W0 w1 := HJ
      have e8 := HK 8 (by decide)
      exact wpo_loadS 43 (.tmp 8) rfl (w.heap.size + 1 + 1) 0 (by simpa [Act.eval] using e8) (seqA y sq) _ (fun j u hj => by rw [Nat.zero_add]; exact ((HQK.out w1 HJ').cell j).trans hj) und_seqW rfl info_seqW (kk _ _ (by simp) HJ (OE.same _ (by omega)) ⟨rfl, ⟨fun e => by omega, fun e => by omega, fun e => by omega⟩⟩)
    · intro a w1 vs K bq Hb HJ HK HD HN kk
      obtain rfl : bq = false := by cases bq with | false => rfl | true => exact absurd (Hb rfl).2 (by decide)
      have HJ' : Below W0.heap.size W0 w1 := HJ
      have e4 := HK 4 (by decide)
      go_simp; exact kk _ _ (by simp) HJ (OE.same _ (by omega)) ⟨rfl, ⟨fun e => by omega, fun e => by omega, fun e => by omega⟩⟩
    · intro a w1 vs K bq Hb HJ HK HD HN kk
      obtain rfl : bq = false := by cases bq with | false => rfl | true => exact absurd (Hb rfl).2 (by decide)
      have HJ' : Below W0.heap.size W0 w1 := HJ
      have e22 := (HD 0 _ 22 rfl rfl rfl).1.trans (HD 0 _ 22 rfl rfl rfl).2.1
      have e28 := (HD 6 _ 28 rfl rfl rfl).1.trans (HD 6 _ 28 rfl rfl rfl).2.1
      have e29 := (HD 7 _ 29 rfl rfl rfl).1.trans (HD 7 _ 29 rfl rfl rfl).2.1
      obtain ⟨q5, r5⟩ := HD 5 _ 27 rfl rfl rfl
      obtain ⟨R1, x1, x2⟩ := r5.2.1 rfl
      have e27 := q5.trans x1
      clear x1 q5 r5
      exact wpo_call 152 _ _ rfl #[.agg (plantA x p), .agg (RA p R1), .agg (seqA y sq), .int .i64 tick] (by simp [Act.eval, e22, e27, e28, e29]) (fun args w => by kernel_rfl)
        ((HOD.out w1 R1 HJ' x2).mono fun e w' ⟨R', he, hr, hb⟩ => ⟨_, he, kk _ _ (by simp) (HJ'.trans (hb.mono HJ'.size)) (OE.below (by omega) hb) ⟨trivial, ⟨fun e => by omega, fun _ => ⟨R', rfl, hr⟩, fun e => by omega⟩⟩⟩)
    · intro a w1 vs K bq Hb HJ HK HD HN kk
      obtain rfl : bq = false := by cases bq with | false => rfl | true => exact absurd (Hb rfl).2 (by decide)
      have HJ' : Below W0.heap.size W0 w1 := HJ
      obtain ⟨q6, r6⟩ := HD 8 _ 30 rfl rfl rfl
      obtain ⟨R', x1, x2⟩ := r6.2.2.1 (Or.inl rfl)
      exact wpo_move (.tmp 30) _ (Or.inl rfl) (by simpa [Act.eval] using q6.trans x1) (kk _ _ (by simp) HJ' (OE.same _ (by omega)) ⟨trivial, ⟨fun e => by omega, fun _ => ⟨_, rfl, x2⟩, fun e => by omega⟩⟩)
    · intro a w1 vs K bq Hb HJ HK HD HN kk
      obtain rfl : bq = false := by cases bq with | false => rfl | true => exact absurd (Hb rfl).2 (by decide)
      have HJ' : Below W0.heap.size W0 w1 := HJ
      obtain ⟨q7, r7⟩ := HD 9 _ 21 rfl rfl rfl
      obtain ⟨R', x1, x2⟩ := r7.2.2.1 (Or.inr rfl)
      have e21 := q7.trans x1
      clear x1 q7 r7
      go_simp; exact kk _ _ (by simp) HJ' (OE.same _ (by omega)) ⟨trivial, ⟨fun e => by omega, fun e => by omega, fun _ => ⟨_, rfl, x2⟩⟩⟩
    · intro a w1 vs K bq Hb HJ HK HD HN kk
      obtain ⟨q7, r7⟩ := HD 9 _ 21 rfl rfl rfl
      obtain ⟨R', x1, x2⟩ := r7.2.2.1 (Or.inr rfl)
      have e21 := q7.trans x1
      clear x1 x2 q7 r7
      go_simp; exact kk _ _ (by simp) (by simpa using HJ) (OE.same _ (by omega)) ⟨rfl, ⟨fun e => by omega, fun e => by omega, fun e => by omega⟩⟩
    · intro a w1 vs K bq Hb HJ HK HD HN kk
      obtain rfl : bq = false := by cases bq with | false => rfl | true => exact absurd rfl (Hb rfl).1
      have HJ' : Below W0.heap.size W0 w1 := HJ
      have e7 := HK 7 (by decide)
      obtain ⟨q8, r8⟩ := HD 10 _ 31 rfl rfl rfl
      obtain ⟨R', y1, y2⟩ := r8.2.2.2 rfl
      exact wpo_storeS 53 (.tmp 7) (.tmp 31) rfl rfl (w.heap.size + 1) 0 (by simpa [Act.eval] using e7) (RA p R') (by simpa [Act.eval] using q8.trans y1) 53 (RA p R0) (HBSX.out w1 HJ') (by rw [RA_size, RA_size]; omega) (RA_one _ _) info_state fun w2 hk2 ho2 => by
        have hk3 : Bk w2 (w.heap.size + 1) 53 (RA p R') := by rw [RA_spl] at hk2; exact hk2
        exact kk undef _ (by simp) (HSTO.out w1 HJ' R' y2 w2 hk3 ho2) (OE.store (by omega) (by omega) ho2) ⟨trivial, ⟨fun e => by omega, fun e => by omega, fun e => by omega⟩⟩
    · intro a w1 vs K bq Hb HJ HK HD HN kk
      have e32 := (HD 11 _ 32 rfl rfl rfl).1.trans (HD 11 _ 32 rfl rfl rfl).2.1
      go_simp; exact kk _ _ (by simp) (by simpa using HJ) (OE.same _ (by omega)) ⟨rfl, ⟨fun e => by omega, fun e => by omega, fun e => by omega⟩⟩
  · intro vs w6 hw6 hrr
    have HS6 : Hid (StQ E W0 w.heap.size 5 (w.heap.size + 1) p Ex w6 SF.1 ∧ @SlO (excB E w.heap.size 5) w6 (· < w6.heap.size) CA n (cntF C)) := Lib.hid hw6
    have e13 : vs 13 = .int .i64 er := (hrr 13 _ rfl).1
    clear hrr hw6
    simp only [putAll, Act.put, List.setIfInBounds_toArray, List.set_cons_zero, List.set_cons_succ]
    rw [e13]
    clear e13
    have FIN : Hid (∀ z T A' c' C' D, StQ E W0 w.heap.size 5 (w.heap.size + 1) p Ex z T → @SlO (excB E w.heap.size 5) z (· < z.heap.size) A' n (cntF C') → (⟨T, C', D⟩ : OnceD) = O → ∃ R, Bk z (w.heap.size + 1) 53 (RA p R) ∧ Bk z (w.heap.size + 1 + 1 + 1) 53 (refA nilR 0 0 0) ∧ Bk z (w.heap.size + 1 + 1 + 1 + 1) 85 (endA end0) ∧
        ∀ z1 z2, Only (w.heap.size + 1 + 1 + 1) z z1 → Only (w.heap.size + 1 + 1 + 1 + 1) z1 z2 → OncePost w n O (.returned (.tuple #[.agg (RA p R), .slice A' n c', .agg (endA D)])) z2) := Lib.hid fun z T A' c' C' D h hc hOO => by
      obtain ⟨R, r1, r2⟩ := h.st
      have hb := HPB.out z _ h
      refine ⟨R, r1, hb.2.2.1, hb.2.2.2, fun z1 z2 o1 o2 => HPOST.out _ _ ⟨R, A', c', by rw [← hOO], ?_, ?_, ?_⟩⟩
      · rw [← hOO]; exact ((r2.stay o1 (by omega) (by omega)).stay o2 (by omega) (by omega)).less
      · rw [← hOO]; exact ((hc.stay o1 (by omega) (by omega)).stay o2 (by omega) (by omega)).less
      · exact ((HB.out.trans h.below).trans (o1.below (by omega))).trans (o2.below (by omega))
    cases hsf : SF.2 with
    | some i =>
      have he2 : er = (i : Int) := by rw [← HER.out, hsf]; rfl
      have HOO : Hid ((⟨SF.1, C, ⟨1, tick, i, 0⟩⟩ : OnceD) = O) := Lib.hid (by rw [← HO.out]; exact (onceB_hit2 (by rw [HSQ.out, ← hsf])).symm)
      subst he2
      have h0i : (0 : Int) ≤ (i : Int) := by omega
      obtain ⟨R, q1, q2, q3, q4⟩ := FIN.out w6 SF.1 CA cc C ⟨1, tick, i, 0⟩ HS6.out.1 HS6.out.2 HOO.out
      have HQ1 := Lib.hid q1; have HQ2 := Lib.hid q2; have HQ3 := Lib.hid q3; have HQ4 := Lib.hid q4
      clear q1 q2 q3 q4 hsf
      go_wp2_with (first
        | (refine wpLoadAt rfl 53 _ rfl (w.heap.size + 1) 0 rfl (RA p R) _ (fun j u hj => by rw [Nat.zero_add]; exact (HQ1.out.cell j).trans hj) und_state rfl info_state ?_)
        | (refine wpStoreAt rfl rfl 53 _ _ rfl (w.heap.size + 1 + 1 + 1) 0 rfl (RA p R) rfl 53 _ HQ2.out (by rw [RA_size]; show 0 + 9 ≤ 9; omega) (RA_one _ _) info_state ?_; intro wf hkf hof; have HQ5 := Lib.hid (HQ3.out.only hof (by omega)); have HKF := Lib.hid hkf; have HOF := Lib.hid hof; clear hkf hof)
        | (refine wpStoreAt rfl rfl 85 _ _ rfl (w.heap.size + 1 + 1 + 1 + 1) 0 rfl (endA ⟨1, tick, i, 0⟩) rfl 85 _ HQ5.out (by show 0 + 4 ≤ 4; omega) (endA_one _) info_ended ?_; intro wg hkg hog))
      have hkf' : Bk wf (w.heap.size + 1 + 1 + 1) 53 (RA p R) := by have hkf := HKF.out; rw [splA_all _ _ (by rw [RA_size]; rfl)] at hkf; exact hkf
      have hkg' : Bk wg (w.heap.size + 1 + 1 + 1 + 1) 85 (endA ⟨1, tick, i, 0⟩) := by rw [endA_spl] at hkg; exact hkg
      refine bodyPost_ret (results_cell_tmp_cell rfl _ _ (w.heap.size + 1 + 1 + 1) (w.heap.size + 1 + 1 + 1 + 1) 53 85 (RA p R) (endA ⟨1, tick, i, 0⟩) _ _ rfl (hkf'.only hog (by omega)) rfl hkg' und_state rfl (by rw [RA_size]; exact info_state) und_ended rfl info_ended) rfl ?_
      exact HQ4.out wf wg HOF.out hog
    | none =>
      have he2 : er = -1 := by rw [← HER.out, hsf]; rfl
      subst he2
      obtain ⟨T, hT⟩ : ∃ T, tickB SF.1 = T := ⟨_, rfl⟩
      obtain ⟨D, hD⟩ : ∃ D, countB T sq C = D := ⟨_, rfl⟩
      have HON : Hid ((⟨T, D, ticked T sq tick D⟩ : OnceD) = O) := Lib.hid (by rw [← HO.out, ← hD, ← hT]; exact (onceB_on2 (by rw [HSQ.out, ← hsf])).symm)
      have hkT : Keeps SF.1 T := by rw [← hT]; exact tickB_keeps _
      have okT : SysOk T := hkT.2 HOKF.out
      have hpT : T.p = p := by rw [hkT.1]; exact HPF.out
      have HOKT := Lib.hid okT
      have HPT := Lib.hid hpT
      have HT := Lib.hid hT
      have HD := Lib.hid hD
      obtain ⟨R, r1, r2⟩ := HS6.out.1.st
      have HK1 := Lib.hid r1
      have hs1 := HS6.out.1.size
      have HTK : Hid (Calls Tryz.prog 83 #[.agg (plantA x p), .agg (RA p R)] w6 fun e w' => ∃ R', e = .returned (.agg (RA p R')) ∧ @RefAt (excB E w.heap.size 5) w' w'.heap.size R' T ∧ Below w6.heap.size w6 w') := Lib.hid (by
        have h := @refTick_any (excB E w.heap.size 5) w6 x R SF.1 (by rw [HPF.out]; exact (HP.out w6 HS6.out.1.below).mono (by omega)) r2 HOKF.out
        rw [HPF.out, RA_of HPF.out, hT] at h
        refine h.mono ?_
        rintro e w' ⟨R', rfl, h1, h2⟩
        exact ⟨R', by rw [RA_of hpT], h1, h2⟩)
      have HPK6 := Lib.hid (HPB.out w6 _ HS6.out.1).1
      simp only [plantA, RA, refA] at HTK
      clear hkT okT hpT hT hD hsf r1 r2 hs1
      go_wp2_with (first
        | (refine wpLoadAt rfl 27 _ rfl w.heap.size 0 rfl (plantA x p) _ (fun j u hj => by rw [Nat.zero_add]; exact (HPK6.out.cell j).trans hj) und_plant rfl info_plant ?_)
        | (refine wpLoadAt rfl 53 _ rfl (w.heap.size + 1) 0 rfl (RA p R) _ (fun j u hj => by rw [Nat.zero_add]; exact (HK1.out.cell j).trans hj) und_state rfl info_state ?_))
      refine HTK.out.mono ?_
      rintro e w7 ⟨R', rfl, hr7, hb7⟩
      have HB7 := Lib.hid hb7
      have HK7 := Lib.hid (HK1.out.below hb7 HK1.out.lt)
      have HSTO7 : Hid (∀ w2, Bk w2 (w.heap.size + 1) 53 (RA p R') → Only (w.heap.size + 1) w7 w2 → StQ E W0 w.heap.size 5 (w.heap.size + 1) p Ex w2 T ∧ @SlO (excB E w.heap.size 5) w2 (· < w2.heap.size) CA n (cntF C)) := Lib.hid fun w2 h1 h2 =>
        ⟨HS6.out.1.store HB7.out hr7 HPT.out h1 h2, (HS6.out.2.later HB7.out).stay h2 (by omega) (by omega)⟩
      clear hr7 hb7
      go_wp2_with (refine wpStoreAt rfl rfl 53 _ _ rfl (w.heap.size + 1) 0 rfl (RA p R') rfl 53 _ HK7.out (by rw [RA_size, RA_size]; omega) (RA_one _ _) info_state ?_; intro wf hkf hof; have HS8 := Lib.hid (HSTO7.out wf (by rw [RA_spl] at hkf; exact hkf) hof); clear hkf hof)
      clear HTK HK1 HPK6 HB7 HK7 HSTO7 HS6
      have HNR : Hid (∀ j, j < n → needOk T.p (sq.red j).need = true) := Lib.hid fun j hj => seqB_red (by rw [HPT.out]; exact HV.out) (by rw [HN.out]; exact hj)
      have HND : Hid (∀ j, j < ns → ∀ i, i < (sq.step j).needs.length → needOk T.p ((sq.step j).needs.getD i need0) = true) := Lib.hid fun j hj i hi => seqB_need (by rw [HPT.out]; exact HV.out) (by rw [HNS.out]; exact hj) hi
      have HEXT : Hid (∀ wr, StQ E W0 w.heap.size 5 (w.heap.size + 1) p Ex wr T → ∃ R, Bk wr w.heap.size 27 (plantA x p) ∧ Bk wr (w.heap.size + 1) 53 (RA p R) ∧ ∀ (nd : NeedD), needOk T.p nd = true → ∀ z : Ext wr,
          Calls Tryz.prog 154 #[.agg (plantA x p), .agg (RA p R), .agg #[needC nd 0, needC nd 1, needC nd 2, needC nd 3]] z.w fun e w' => e = .returned (.bool (keptB T nd)) ∧ Below z.w.heap.size z.w w') := Lib.hid fun wr hs => by
        obtain ⟨R, r1, r2⟩ := hs.st
        refine ⟨R, (HPB.out wr T hs).1, r1, fun nd hnd z => ?_⟩
        have hz := z.h
        have hzs := hz.size
        have hws := hs.size
        have h := @refKept_any (excB E w.heap.size 5) z.w x R T (by rw [HPT.out]; exact (HP.out z.w (hs.below.trans (hz.mono (by omega)))).mono (by omega)) (by
          letI : Exc := excB E w.heap.size 5
          exact (RefAt.below r2 hz).mono hz.size) HOKT.out nd hnd
        rw [HPT.out, RA_of HPT.out] at h
        exact h
      go_loopw [5, 16] (fun cs i wr => ∃ (k : Nat) (A' : Option Addr) (c' : Nat), k ≤ n ∧ i = .int .i64 k ∧ cs = .slice A' n c' ∧ Hid (StQ E W0 w.heap.size 5 (w.heap.size + 1) p Ex wr T ∧ @SlO (excB E w.heap.size 5) wr (· < wr.heap.size) A' n (cntF (mixC C D k)))) (fun _ i _ => n - (intOf i).toNat)
      case atStart => exact ⟨0, CA, cc, Nat.zero_le _, rfl, rfl, Lib.hid (by rw [mixC_zero]; exact HS8.out)⟩
      case round =>
        obtain ⟨k, A', c', hk, rfl, rfl, hs⟩ := hrel
        have k1 : wr.cell? ⟨w.heap.size + 1 + 1, 1, none⟩ = some (.slice y.rA n y.rc) := by rw [← HN.out]; exact (HPB.out wr T hs.out.1).2.1.cell 1
        by_cases hlt : k < n
        · have hki : (k : Int) < (n : Int) := by omega
          have h0k : (0 : Int) ≤ (k : Int) := by omega
          have hlt' : k < sq.reds.length := by rw [HN.out]; exact hlt
          obtain ⟨b, off, hA, hBb, d0, d1, d2, d3, _⟩ := (HQ.out wr hs.out.1.below).reds.at5 hlt'
          simp only [redC] at d0 d1 d2 d3
          obtain ⟨⟨⟨kd, of_, lw, hg⟩, tk⟩, hrd⟩ : ∃ r, sq.red k = r := ⟨_, rfl⟩
          rw [hrd] at d0 d1 d2 d3
          simp only at d0 d1 d2 d3
          obtain ⟨R2, r0, r1, r2⟩ := HEXT.out wr hs.out.1
          have hnd := HNR.out k hlt
          rw [hrd] at hnd
          have hkp := r2 ⟨kd, of_, lw, hg⟩ hnd
          rw [hA] at k1
          have p0 := Ext.cell (r0.cell 0); have p1 := Ext.cell (r0.cell 1); have p2 := Ext.cell (r0.cell 2); have p3 := Ext.cell (r0.cell 3)
          have s0 := Ext.cell (r1.cell 0); have s1 := Ext.cell (r1.cell 1); have s2 := Ext.cell (r1.cell 2); have s3 := Ext.cell (r1.cell 3); have s4 := Ext.cell (r1.cell 4)
          have s5 := Ext.cell (r1.cell 5); have s6 := Ext.cell (r1.cell 6); have s7 := Ext.cell (r1.cell 7); have s8 := Ext.cell (r1.cell 8)
          have x0 := Ext.cell d0; have x1 := Ext.cell d1; have x2 := Ext.cell d2; have x3 := Ext.cell d3; have y1 := Ext.cell k1
          simp only [plantA] at p0 p1 p2 p3 hkp
          simp only [RA, refA] at s0 s1 s2 s3 s4 s5 s6 s7 s8 hkp
          simp only [needC] at hkp
          have HKP := Lib.hid hkp
          have HRD := Lib.hid hrd
          obtain ⟨ck, hck⟩ : ∃ a, C k = a := ⟨_, rfl⟩
          have hcb := HCR.out k
          rw [hck] at hcb
          have hwr : IntKind.i64.wrap (ck + 1) = ck + 1 := IntWalk.i64_in _ (by omega)
          have HCK := Lib.hid hck
          have HWRP := Lib.hid hwr
          have HAR := Lib.hid hA
          clear hrd hnd hkp r0 r1 r2 hA d0 d1 d2 d3 hck hwr hBb
          go_wp2_with fail
          refine wp_region_ext_quiet (by kernel_rfl) (by kernel_rfl) ?_
          repeat (go_big_quiet_step ((go_at_call 154; exact Ext.calls (HKP.out _))))
          refine wpQuiet_nil ?_
          intro w8 hw8
          have HS9 : Hid (StQ E W0 w.heap.size 5 (w.heap.size + 1) p Ex w8 T ∧ @SlO (excB E w.heap.size 5) w8 (· < w8.heap.size) A' n (cntF (mixC C D k))) := Lib.hid ⟨hs.out.1.later hw8, hs.out.2.later hw8⟩
          clear p0 p1 p2 p3 s0 s1 s2 s3 s4 s5 s6 s7 s8 x0 x1 x2 x3 y1 k1 hw8 HKP hs
          have hwth := fun (v : Int) => rwith_any w8 A' n c' (mixC C D k) (@SlO.sl (excB E w.heap.size 5) _ _ _ _ _ HS9.out.2) (by omega) k hlt v
          have HWTH := Lib.hid hwth
          have HTOP : Hid (max E.top (w.heap.size + 5) ≤ w8.heap.size) := Lib.hid (@SlO.top (excB E w.heap.size 5) _ _ _ _ _ HS9.out.2)
          obtain ⟨b2, off2, hA2, _, e5⟩ := Sl.at1v (f := fun i => .int .i64 (mixC C D k i)) (@SlO.sl (excB E w.heap.size 5) _ _ _ _ _ HS9.out.2) hlt
          rw [mixC_at, HCK.out] at e5
          subst hA2
          clear hwth
          cases hkb : keptB T ⟨kd, of_, lw, hg⟩ with
          | true =>
            have HMX : Hid (∀ i, i < n → (if i = k then 0 else mixC C D k i) = mixC C D (k + 1) i) := Lib.hid fun i hi => by rw [← HD.out]; exact mix_kept2 (T := T) (q := sq) (c := C) (by rw [HRD.out]; exact hkb) i
            clear hkb e5
            go_wp2_with fail
            refine (HWTH.out 0).mono ?_
            rintro e w9 ⟨A2, c2, rfl, h1, h2⟩
            have HS10 : Hid (StQ E W0 w.heap.size 5 (w.heap.size + 1) p Ex w9 T ∧ @SlO (excB E w.heap.size 5) w9 (· < w9.heap.size) A2 n (cntF (mixC C D (k + 1)))) := Lib.hid ⟨HS9.out.1.later h2, (SlO.withC (E := excB E w.heap.size 5) HTOP.out h2 h1).cnt HMX.out⟩
            clear h1 h2
            go_wp2_with fail
            go_roundw
            case rel => exact ⟨k + 1, A2, c2, by omega, by go_num, rfl, HS10⟩
            case measure => simp [intOf]; omega
          | false =>
            have HMX : Hid (∀ i, i < n → (if i = k then ck + 1 else mixC C D k i) = mixC C D (k + 1) i) := Lib.hid fun i hi => by rw [← HD.out, ← HCK.out]; exact mix_not (T := T) (q := sq) (c := C) (by rw [HRD.out]; exact hkb) i hi
            clear hkb
            go_wp2_with fail
            refine (HWTH.out (ck + 1)).mono ?_
            rintro e w9 ⟨A2, c2, rfl, h1, h2⟩
            have HS10 : Hid (StQ E W0 w.heap.size 5 (w.heap.size + 1) p Ex w9 T ∧ @SlO (excB E w.heap.size 5) w9 (· < w9.heap.size) A2 n (cntF (mixC C D (k + 1)))) := Lib.hid ⟨HS9.out.1.later h2, (SlO.withC (E := excB E w.heap.size 5) HTOP.out h2 h1).cnt HMX.out⟩
            clear h1 h2 e5
            go_wp2_with fail
            go_roundw
            case rel => exact ⟨k + 1, A2, c2, by omega, by go_num, rfl, HS10⟩
            case measure => simp [intOf]; omega
        · obtain rfl : k = n := by omega
          have HS9 : Hid (StQ E W0 w.heap.size 5 (w.heap.size + 1) p Ex wr T ∧ @SlO (excB E w.heap.size 5) wr (· < wr.heap.size) A' k (cntF D)) := Lib.hid ⟨hs.out.1, hs.out.2.cnt mixC_all⟩
          clear hs
          go_wp2_with fail
          clear k1
          go_loopw [17] (fun i wr => ∃ (j : Nat), j ≤ k ∧ i = .int .i64 j ∧ Hid (StQ E W0 w.heap.size 5 (w.heap.size + 1) p Ex wr T ∧ @SlO (excB E w.heap.size 5) wr (· < wr.heap.size) A' k (cntF D) ∧ ∀ i, i < j → hurtF sq D i = false)) (fun i _ => k - (intOf i).toNat)
          case atStart => exact ⟨0, Nat.zero_le _, rfl, Lib.hid ⟨HS9.out.1, HS9.out.2, fun i hi => absurd hi (by omega)⟩⟩
          case round =>
            obtain ⟨j, hj, rfl, hs⟩ := hrel
            have k1 : wr.cell? ⟨w.heap.size + 1 + 1, 1, none⟩ = some (.slice y.rA k y.rc) := by rw [← HN.out]; exact (HPB.out wr T hs.out.1).2.1.cell 1
            by_cases hlt : j < k
            · have hji : (j : Int) < (k : Int) := by omega
              have h0j : (0 : Int) ≤ (j : Int) := by omega
              have hlt' : j < sq.reds.length := by rw [HN.out]; exact hlt
              obtain ⟨b, off, hA, hBb, _, _, _, _, d4⟩ := (HQ.out wr hs.out.1.below).reds.at5 hlt'
              simp only [redC] at d4
              obtain ⟨tk, htk⟩ : ∃ t, (sq.red j).ticks = t := ⟨_, rfl⟩
              rw [htk] at d4
              rw [hA] at k1
              obtain ⟨b2, off2, hA2, _, e5⟩ := Sl.at1v (f := fun i => .int .i64 (D i)) (@SlO.sl (excB E w.heap.size 5) _ _ _ _ _ hs.out.2.1) hlt
              subst hA2
              obtain ⟨dj, hdj⟩ : ∃ a, D j = a := ⟨_, rfl⟩
              rw [hdj] at e5
              have HTK := Lib.hid htk
              have HDJ := Lib.hid hdj
              clear htk hdj hA hBb
              by_cases hh : tk < dj
              · have hgt : decide (dj > tk) = true := by simp; omega
                have HOO : Hid ((⟨T, D, ⟨3, tick, j, 0⟩⟩ : OnceD) = O) := Lib.hid (by
                  rw [← HON.out, ticked_hurt (i := j) (firstN_first _ (Nat.zero_le j) (by rw [HN.out]; omega) (fun i _ hi => hs.out.2.2 i hi) (by unfold hurtF; rw [HTK.out, HDJ.out]; simpa using hh))])
                have HSL := Lib.hid hs.out
                clear hs
                go_wp2_with fail
                go_quiet (fail)
                rename_i nq
                obtain ⟨R, q1, q2, q3, q4⟩ := FIN.out _ T (some ⟨b2, off2, none⟩) c' D ⟨3, tick, j, 0⟩ (HSL.out.1.later (below_drewN (Below.refl _ _) nq)) (HSL.out.2.1.later (below_drewN (Below.refl _ _) nq)) HOO.out
                obtain ⟨wd, hwd⟩ : ∃ wd, wr.drewN nq = wd := ⟨_, rfl⟩
                rw [hwd] at q1 q2 q3 q4 ⊢
                have HQ1 := Lib.hid q1; have HQ2 := Lib.hid q2; have HQ3 := Lib.hid q3; have HQ4 := Lib.hid q4
                clear q1 q2 q3 q4 hwd k1 d4 e5 hgt
                go_wp2_with (first
                  | (refine wpLoadAt rfl 53 _ rfl (w.heap.size + 1) 0 rfl (RA p R) _ (fun j u hj => by rw [Nat.zero_add]; exact (HQ1.out.cell j).trans hj) und_state rfl info_state ?_)
                  | (refine wpStoreAt rfl rfl 53 _ _ rfl (w.heap.size + 1 + 1 + 1) 0 rfl (RA p R) rfl 53 _ HQ2.out (by rw [RA_size]; show 0 + 9 ≤ 9; omega) (RA_one _ _) info_state ?_; intro wf hkf hof; have HQ5 := Lib.hid (HQ3.out.only hof (by omega)); have HKF := Lib.hid hkf; have HOF := Lib.hid hof; clear hkf hof)
                  | (refine wpStoreAt rfl rfl 85 _ _ rfl (w.heap.size + 1 + 1 + 1 + 1) 0 rfl (endA ⟨3, tick, j, 0⟩) rfl 85 _ HQ5.out (by show 0 + 4 ≤ 4; omega) (endA_one _) info_ended ?_; intro wg hkg hog))
                have hkf' : Bk wf (w.heap.size + 1 + 1 + 1) 53 (RA p R) := by have hkf := HKF.out; rw [splA_all _ _ (by rw [RA_size]; rfl)] at hkf; exact hkf
                have hkg' : Bk wg (w.heap.size + 1 + 1 + 1 + 1) 85 (endA ⟨3, tick, j, 0⟩) := by rw [endA_spl] at hkg; exact hkg
                refine bodyPost_ret (results_cell_tmp_cell rfl _ _ (w.heap.size + 1 + 1 + 1) (w.heap.size + 1 + 1 + 1 + 1) 53 85 (RA p R) (endA ⟨3, tick, j, 0⟩) _ _ rfl (hkf'.only hog (by omega)) rfl hkg' und_state rfl (by rw [RA_size]; exact info_state) und_ended rfl info_ended) rfl ?_
                exact HQ4.out wf wg HOF.out hog
              · have hgt : decide (dj > tk) = false := by simp; omega
                have HHF : Hid (hurtF sq D j = false) := Lib.hid (by unfold hurtF; rw [HTK.out, HDJ.out]; simpa using hh)
                have HSL := Lib.hid hs.out
                clear hs
                go_wp2_with fail
                go_quiet (fail)
                rename_i nq
                have HSM : Hid (StQ E W0 w.heap.size 5 (w.heap.size + 1) p Ex (wr.drewN nq) T ∧ @SlO (excB E w.heap.size 5) (wr.drewN nq) (· < (wr.drewN nq).heap.size) (some ⟨b2, off2, none⟩) k (cntF D) ∧ ∀ i, i < j + 1 → hurtF sq D i = false) := Lib.hid ⟨HSL.out.1.later (below_drewN (Below.refl _ _) nq), HSL.out.2.1.later (below_drewN (Below.refl _ _) nq), fun i hi => if e : i = j then by rw [e]; exact HHF.out else HSL.out.2.2 i (by omega)⟩
                clear k1 d4 e5 hgt
                go_wp2_with fail
                go_roundw
                case rel => exact ⟨j + 1, by omega, by go_num, HSM⟩
                case measure => simp [intOf]; omega
            · obtain rfl : j = k := by omega
              have HNH : Hid (firstN (hurtF sq D) sq.reds.length 0 = none) := Lib.hid (firstN_none.2 fun i _ hi => hs.out.2.2 i (by rw [HN.out] at hi; omega))
              have HS10 : Hid (StQ E W0 w.heap.size 5 (w.heap.size + 1) p Ex wr T ∧ @SlO (excB E w.heap.size 5) wr (· < wr.heap.size) A' j (cntF D)) := Lib.hid ⟨hs.out.1, hs.out.2.1⟩
              clear hs
              go_wp2_with fail
              clear k1
              go_loopw [18, 19] (fun m i wr => ∃ (i' : Nat), i' ≤ ns ∧ m = .bool (moreK sq tick i') ∧ i = .int .i64 i' ∧ Hid (StQ E W0 w.heap.size 5 (w.heap.size + 1) p Ex wr T ∧ @SlO (excB E w.heap.size 5) wr (· < wr.heap.size) A' j (cntF D) ∧ ∀ a, a < i' → missF T sq tick a = false)) (fun _ i _ => ns - (intOf i).toNat)
              case atStart => exact ⟨0, Nat.zero_le _, by rw [moreK_zero], rfl, Lib.hid ⟨HS10.out.1, HS10.out.2, fun i hi => absurd hi (by omega)⟩⟩
              case round =>
                obtain ⟨i, hi, rfl, rfl, hs⟩ := hrel
                have k0 : wr.cell? ⟨w.heap.size + 1 + 1, 0, none⟩ = some (.slice y.sA ns y.sc) := by rw [← HNS.out]; exact (HPB.out wr T hs.out.1).2.1.cell 0
                by_cases hlt : i < ns
                · have hii : (i : Int) < (ns : Int) := by omega
                  have h0i : (0 : Int) ≤ (i : Int) := by omega
                  have hlt' : i < sq.steps.length := by rw [HNS.out]; exact hlt
                  obtain ⟨b, off, hA, hBb, d0, d1, d2⟩ := (HQ.out wr hs.out.1.below).steps.at3 hlt'
                  simp only [stepC] at d0 d1 d2
                  have HSB : Hid (∀ z, StQ E W0 w.heap.size 5 (w.heap.size + 1) p Ex z T → z.cell? ⟨w.heap.size + 1 + 1, 0, none⟩ = some (.slice (some ⟨b, off, none⟩) ns y.sc) ∧ z.cell? ⟨b, off + i * 3, none⟩ = some (.int .i64 (sq.step i).at_) ∧ z.cell? ⟨b, off + i * 3 + 2, none⟩ = some (.slice (y.nA i) (sq.step i).needs.length (y.nc i))) := Lib.hid fun z h => by
                    obtain ⟨b', off', hA', _, g0, _, g2⟩ := (HQ.out z h.below).steps.at3 hlt'
                    simp only [stepC] at g0 g2
                    rw [hA] at hA'
                    obtain ⟨rfl, rfl⟩ : b = b' ∧ off = off' := by simpa using hA'
                    exact ⟨by rw [← HNS.out, ← hA]; exact (HPB.out z T h).2.1.cell 0, g0, g2⟩
                  obtain ⟨nk, hnk⟩ : ∃ m, (sq.step i).needs.length = m := ⟨_, rfl⟩
                  have hnk9 : nk ≤ 9223372036854775807 := by rw [← hnk]; exact ((HQ.out wr hs.out.1.below).sn i hlt').1
                  rw [hnk] at HSB d2
                  rw [hA] at k0
                  obtain ⟨at_, hat_⟩ : ∃ a, (sq.step i).at_ = a := ⟨_, rfl⟩
                  rw [hat_] at HSB d0
                  have HAT := Lib.hid hat_
                  have HNK := Lib.hid hnk
                  obtain ⟨mb, hmb⟩ : ∃ m, moreK sq tick i = m := ⟨_, rfl⟩
                  have hms := moreK_step sq tick i
                  rw [hmb, hat_] at hms
                  rw [hmb]
                  have HMS := Lib.hid hms
                  have HSL := Lib.hid hs.out
                  clear hms hmb hat_ hnk hA hs hBb d1
                  go_upto_region 20 with (fail)
                  go_cut [18] (fun q w' => q = .bool (moreK sq tick (i + 1)) ∧ wr = w')
                  case first =>
                    cases mb with
                    | true =>
                      go_wp2_with fail
                      go_meet
                      case rel => exact ⟨by rw [HMS.out]; rfl, rfl⟩
                    | false =>
                      by_cases hq1 : tick < at_
                      · go_wp2_with fail
                        go_meet
                        case rel => exact ⟨by rw [HMS.out]; simp [hq1], rfl⟩
                      · go_wp2_with fail
                        go_meet
                        case rel => exact ⟨by rw [HMS.out]; simp [hq1], rfl⟩
                  case rest =>
                    obtain ⟨hq18, rfl⟩ := hcut
                    subst hq18
                    by_cases hat : at_ = tick
                    · subst hat
                      have HKK : Hid (∀ m, m < nk → needOk T.p ((sq.step i).needs.getD m need0) = true) := Lib.hid fun m hm => HND.out i hlt m (by rw [HNK.out]; exact hm)
                      clear k0 d0 d2
                      go_wp2_with fail
                      go_loopw [20] (fun a wr => ∃ (m : Nat), m ≤ nk ∧ a = .int .i64 m ∧ Hid (StQ E W0 w.heap.size 5 (w.heap.size + 1) p Ex wr T ∧ @SlO (excB E w.heap.size 5) wr (· < wr.heap.size) A' j (cntF D) ∧ ∀ a, a < m → keptB T ((sq.step i).needs.getD a need0) = true)) (fun a _ => nk - (intOf a).toNat)
                      case atStart => exact ⟨0, Nat.zero_le _, rfl, Lib.hid ⟨HSL.out.1, HSL.out.2.1, fun a ha => absurd ha (by omega)⟩⟩
                      case round =>
                        obtain ⟨m, hm, rfl, hu⟩ := hrel
                        obtain ⟨k0, d0, d2⟩ := HSB.out wr hu.out.1
                        by_cases hlm : m < nk
                        · have hmm : (m : Int) < (nk : Int) := by omega
                          have h0m : (0 : Int) ≤ (m : Int) := by omega
                          have hlm' : m < (sq.step i).needs.length := by rw [HNK.out]; exact hlm
                          obtain ⟨b2, off2, hA2, _, e0, e1, e2, e3⟩ := Sl.at4 ((HQ.out wr hu.out.1.below).sn i hlt') hlm'
                          obtain ⟨nd, hnd⟩ : ∃ nd, (sq.step i).needs.getD m need0 = nd := ⟨_, rfl⟩
                          have hno := HKK.out m hlm
                          rw [hnd] at e0 e1 e2 e3 hno
                          obtain ⟨kd, of_, lw, hg⟩ := nd
                          simp only [needC] at e0 e1 e2 e3
                          rw [hA2] at d2
                          obtain ⟨R2, r0, r1, r2⟩ := HEXT.out wr hu.out.1
                          have hkp := r2 ⟨kd, of_, lw, hg⟩ hno
                          have p0 := Ext.cell (r0.cell 0); have p1 := Ext.cell (r0.cell 1); have p2 := Ext.cell (r0.cell 2); have p3 := Ext.cell (r0.cell 3)
                          have s0 := Ext.cell (r1.cell 0); have s1 := Ext.cell (r1.cell 1); have s2 := Ext.cell (r1.cell 2); have s3 := Ext.cell (r1.cell 3); have s4 := Ext.cell (r1.cell 4)
                          have s5 := Ext.cell (r1.cell 5); have s6 := Ext.cell (r1.cell 6); have s7 := Ext.cell (r1.cell 7); have s8 := Ext.cell (r1.cell 8)
                          have x0 := Ext.cell e0; have x1 := Ext.cell e1; have x2 := Ext.cell e2; have x3 := Ext.cell e3; have y0 := Ext.cell k0; have y2 := Ext.cell d2
                          simp only [plantA] at p0 p1 p2 p3 hkp
                          simp only [RA, refA] at s0 s1 s2 s3 s4 s5 s6 s7 s8 hkp
                          simp only [needC] at hkp
                          have HKP := Lib.hid hkp
                          have HN2 := Lib.hid hnd
                          clear hkp r0 r1 r2 hA2 e0 e1 e2 e3 hno hnd
                          go_wp2_with fail
                          clear k0 d0 d2
                          refine wp_region_ext_quiet (by kernel_rfl) (by kernel_rfl) ?_
                          repeat (go_big_quiet_step ((go_at_call 154; exact Ext.calls (HKP.out _))))
                          refine wpQuiet_nil ?_
                          intro w8 hw8
                          have HS9 : Hid (StQ E W0 w.heap.size 5 (w.heap.size + 1) p Ex w8 T ∧ @SlO (excB E w.heap.size 5) w8 (· < w8.heap.size) A' j (cntF D)) := Lib.hid ⟨hu.out.1.later hw8, hu.out.2.1.later hw8⟩
                          have HUK := Lib.hid hu.out.2.2
                          clear p0 p1 p2 p3 s0 s1 s2 s3 s4 s5 s6 s7 s8 x0 x1 x2 x3 y0 y2 hw8 HKP hu
                          cases hkb : keptB T ⟨kd, of_, lw, hg⟩ with
                          | true =>
                            have HMX : Hid (StQ E W0 w.heap.size 5 (w.heap.size + 1) p Ex w8 T ∧ @SlO (excB E w.heap.size 5) w8 (· < w8.heap.size) A' j (cntF D) ∧ ∀ a, a < m + 1 → keptB T ((sq.step i).needs.getD a need0) = true) := Lib.hid ⟨HS9.out.1, HS9.out.2, fun a ha => if e : a = m then by rw [e, HN2.out]; exact hkb else HUK.out a (by omega)⟩
                            clear hkb
                            go_wp2_with fail
                            go_roundw
                            case rel => exact ⟨m + 1, by omega, by go_num, HMX⟩
                            case measure => simp [intOf]; omega
                          | false =>
                            have HOO : Hid ((⟨T, D, ⟨2, at_, i, 0⟩⟩ : OnceD) = O) := Lib.hid (by
                              have hmiss : missF T sq at_ i = true := by
                                rw [missF_eq HAT.out, HNK.out, allN_false hlm (by rw [HN2.out]; exact hkb)]; rfl
                              rw [← HON.out, ticked_miss (i := i) HNH.out (firstN_first _ (Nat.zero_le i) (by rw [HNS.out]; omega) (fun a _ ha => HSL.out.2.2 a ha) hmiss)])
                            obtain ⟨R, q1, q2, q3, q4⟩ := FIN.out w8 T A' c' D ⟨2, at_, i, 0⟩ HS9.out.1 HS9.out.2 HOO.out
                            have HQ1 := Lib.hid q1; have HQ2 := Lib.hid q2; have HQ3 := Lib.hid q3; have HQ4 := Lib.hid q4
                            clear q1 q2 q3 q4 hkb
                            go_wp2_with (first
                              | (refine wpLoadAt rfl 53 _ rfl (w.heap.size + 1) 0 rfl (RA p R) _ (fun j u hj => by rw [Nat.zero_add]; exact (HQ1.out.cell j).trans hj) und_state rfl info_state ?_)
                              | (refine wpStoreAt rfl rfl 53 _ _ rfl (w.heap.size + 1 + 1 + 1) 0 rfl (RA p R) rfl 53 _ HQ2.out (by rw [RA_size]; show 0 + 9 ≤ 9; omega) (RA_one _ _) info_state ?_; intro wf hkf hof; have HQ5 := Lib.hid (HQ3.out.only hof (by omega)); have HKF := Lib.hid hkf; have HOF := Lib.hid hof; clear hkf hof)
                              | (refine wpStoreAt rfl rfl 85 _ _ rfl (w.heap.size + 1 + 1 + 1 + 1) 0 rfl (endA ⟨2, at_, i, 0⟩) rfl 85 _ HQ5.out (by show 0 + 4 ≤ 4; omega) (endA_one _) info_ended ?_; intro wg hkg hog))
                            have hkf' : Bk wf (w.heap.size + 1 + 1 + 1) 53 (RA p R) := by have hkf := HKF.out; rw [splA_all _ _ (by rw [RA_size]; rfl)] at hkf; exact hkf
                            have hkg' : Bk wg (w.heap.size + 1 + 1 + 1 + 1) 85 (endA ⟨2, at_, i, 0⟩) := by rw [endA_spl] at hkg; exact hkg
                            refine bodyPost_ret (results_cell_tmp_cell rfl _ _ (w.heap.size + 1 + 1 + 1) (w.heap.size + 1 + 1 + 1 + 1) 53 85 (RA p R) (endA ⟨2, at_, i, 0⟩) _ _ rfl (hkf'.only hog (by omega)) rfl hkg' und_state rfl (by rw [RA_size]; exact info_state) und_ended rfl info_ended) rfl ?_
                            exact HQ4.out wf wg HOF.out hog
                        · obtain rfl : m = nk := by omega
                          have HSM : Hid (StQ E W0 w.heap.size 5 (w.heap.size + 1) p Ex wr T ∧ @SlO (excB E w.heap.size 5) wr (· < wr.heap.size) A' j (cntF D) ∧ ∀ a, a < i + 1 → missF T sq at_ a = false) := Lib.hid ⟨hu.out.1, hu.out.2.1, fun a ha => if e : a = i then by rw [e, missF_eq HAT.out, HNK.out, allN_true hu.out.2.2]; rfl else HSL.out.2.2 a (by omega)⟩
                          clear hu
                          go_wp2_with fail
                          go_roundw
                          case rel => first | exact ⟨i + 1, by omega, rfl, by go_num, HSM⟩ | ((repeat apply Exists.intro); exact ⟨⟨i + 1, by omega, rfl, by go_num, HSM⟩, rfl⟩)
                          case measure => simp [intOf]; omega
                    · have HSM : Hid (StQ E W0 w.heap.size 5 (w.heap.size + 1) p Ex wr T ∧ @SlO (excB E w.heap.size 5) wr (· < wr.heap.size) A' j (cntF D) ∧ ∀ a, a < i + 1 → missF T sq tick a = false) := Lib.hid ⟨HSL.out.1, HSL.out.2.1, fun a ha => if e : a = i then by rw [e]; unfold missF; rw [HAT.out]; simp [hat] else HSL.out.2.2 a (by omega)⟩
                      have HATN := Lib.hid hat
                      clear k0 d0 d2 hat
                      go_wp2_with fail
                      go_loopw [20] (fun a wr => a = .int .i64 0 ∧ Hid (StQ E W0 w.heap.size 5 (w.heap.size + 1) p Ex wr T ∧ @SlO (excB E w.heap.size 5) wr (· < wr.heap.size) A' j (cntF D) ∧ ∀ a, a < i + 1 → missF T sq tick a = false)) (fun _ _ => 0)
                      case atStart => exact ⟨rfl, HSM⟩
                      case round =>
                        obtain ⟨rfl, hu⟩ := hrel
                        obtain ⟨k0, d0, d2⟩ := HSB.out wr hu.out.1
                        have hat := HATN.out
                        by_cases hn0 : (0 : Int) < (nk : Int)
                        · go_wp2_with fail
                          go_roundw
                          case rel => first | exact ⟨i + 1, by omega, rfl, by go_num, hu⟩ | ((repeat apply Exists.intro); exact ⟨⟨i + 1, by omega, rfl, by go_num, hu⟩, rfl⟩)
                          case measure => simp [intOf]; omega
                        · go_wp2_with fail
                          go_roundw
                          case rel => first | exact ⟨i + 1, by omega, rfl, by go_num, hu⟩ | ((repeat apply Exists.intro); exact ⟨⟨i + 1, by omega, rfl, by go_num, hu⟩, rfl⟩)
                          case measure => simp [intOf]; omega
                · obtain rfl : i = ns := by omega
                  have HNM : Hid (firstN (missF T sq tick) sq.steps.length 0 = none) := Lib.hid (firstN_none.2 fun a _ ha => hs.out.2.2 a (by rw [HNS.out] at ha; omega))
                  have HSL : Hid (StQ E W0 w.heap.size 5 (w.heap.size + 1) p Ex wr T ∧ @SlO (excB E w.heap.size 5) wr (· < wr.heap.size) A' j (cntF D)) := Lib.hid ⟨hs.out.1, hs.out.2.1⟩
                  obtain ⟨mb, hmb⟩ : ∃ m, moreK sq tick i = m := ⟨_, rfl⟩
                  have hmf : moreF sq tick = mb := by rw [← hmb, ← HNS.out]; rfl
                  rw [hmb]
                  have HMF := Lib.hid hmf
                  clear hs hmb hmf
                  cases mb with
                  | true =>
                    have HOO : Hid ((⟨T, D, ⟨-1, 0, 0, 0⟩⟩ : OnceD) = O) := Lib.hid (by rw [← HON.out, ticked_more HNH.out HNM.out HMF.out])
                    obtain ⟨R, q1, q2, q3, q4⟩ := FIN.out wr T A' c' D ⟨-1, 0, 0, 0⟩ HSL.out.1 HSL.out.2 HOO.out
                    have HQ1 := Lib.hid q1; have HQ2 := Lib.hid q2; have HQ3 := Lib.hid q3; have HQ4 := Lib.hid q4
                    clear q1 q2 q3 q4
                    go_wp2_with (first
                      | (refine wpLoadAt rfl 53 _ rfl (w.heap.size + 1) 0 rfl (RA p R) _ (fun j u hj => by rw [Nat.zero_add]; exact (HQ1.out.cell j).trans hj) und_state rfl info_state ?_)
                      | (refine wpStoreAt rfl rfl 53 _ _ rfl (w.heap.size + 1 + 1 + 1) 0 rfl (RA p R) rfl 53 _ HQ2.out (by rw [RA_size]; show 0 + 9 ≤ 9; omega) (RA_one _ _) info_state ?_; intro wf hkf hof; have HQ5 := Lib.hid (HQ3.out.only hof (by omega)); have HKF := Lib.hid hkf; have HOF := Lib.hid hof; clear hkf hof)
                      | (refine wpStoreAt rfl rfl 85 _ _ rfl (w.heap.size + 1 + 1 + 1 + 1) 0 rfl (endA ⟨-1, 0, 0, 0⟩) rfl 85 _ HQ5.out (by show 0 + 4 ≤ 4; omega) (endA_one _) info_ended ?_; intro wg hkg hog))
                    have hkf' : Bk wf (w.heap.size + 1 + 1 + 1) 53 (RA p R) := by have hkf := HKF.out; rw [splA_all _ _ (by rw [RA_size]; rfl)] at hkf; exact hkf
                    have hkg' : Bk wg (w.heap.size + 1 + 1 + 1 + 1) 85 (endA ⟨-1, 0, 0, 0⟩) := by rw [endA_spl] at hkg; exact hkg
                    refine bodyPost_ret (results_cell_tmp_cell rfl _ _ (w.heap.size + 1 + 1 + 1) (w.heap.size + 1 + 1 + 1 + 1) 53 85 (RA p R) (endA ⟨-1, 0, 0, 0⟩) _ _ rfl (hkf'.only hog (by omega)) rfl hkg' und_state rfl (by rw [RA_size]; exact info_state) und_ended rfl info_ended) rfl ?_
                    exact HQ4.out wf wg HOF.out hog
                  | false =>
                    have HOO : Hid ((⟨T, D, ⟨0, tick, 0, 0⟩⟩ : OnceD) = O) := Lib.hid (by rw [← HON.out, ticked_end HNH.out HNM.out HMF.out])
                    obtain ⟨R, q1, q2, q3, q4⟩ := FIN.out wr T A' c' D ⟨0, tick, 0, 0⟩ HSL.out.1 HSL.out.2 HOO.out
                    have HQ1 := Lib.hid q1; have HQ2 := Lib.hid q2; have HQ3 := Lib.hid q3; have HQ4 := Lib.hid q4
                    clear q1 q2 q3 q4
                    go_wp2_with (first
                      | (refine wpLoadAt rfl 53 _ rfl (w.heap.size + 1) 0 rfl (RA p R) _ (fun j u hj => by rw [Nat.zero_add]; exact (HQ1.out.cell j).trans hj) und_state rfl info_state ?_)
                      | (refine wpStoreAt rfl rfl 53 _ _ rfl (w.heap.size + 1 + 1 + 1) 0 rfl (RA p R) rfl 53 _ HQ2.out (by rw [RA_size]; show 0 + 9 ≤ 9; omega) (RA_one _ _) info_state ?_; intro wf hkf hof; have HQ5 := Lib.hid (HQ3.out.only hof (by omega)); have HKF := Lib.hid hkf; have HOF := Lib.hid hof; clear hkf hof)
                      | (refine wpStoreAt rfl rfl 85 _ _ rfl (w.heap.size + 1 + 1 + 1 + 1) 0 rfl (endA ⟨0, tick, 0, 0⟩) rfl 85 _ HQ5.out (by show 0 + 4 ≤ 4; omega) (endA_one _) info_ended ?_; intro wg hkg hog))
                    have hkf' : Bk wf (w.heap.size + 1 + 1 + 1) 53 (RA p R) := by have hkf := HKF.out; rw [splA_all _ _ (by rw [RA_size]; rfl)] at hkf; exact hkf
                    have hkg' : Bk wg (w.heap.size + 1 + 1 + 1 + 1) 85 (endA ⟨0, tick, 0, 0⟩) := by rw [endA_spl] at hkg; exact hkg
                    refine bodyPost_ret (results_cell_tmp_cell rfl _ _ (w.heap.size + 1 + 1 + 1) (w.heap.size + 1 + 1 + 1 + 1) 53 85 (RA p R) (endA ⟨0, tick, 0, 0⟩) _ _ rfl (hkf'.only hog (by omega)) rfl hkg' und_state rfl (by rw [RA_size]; exact info_state) und_ended rfl info_ended) rfl ?_
                    exact HQ4.out wf wg HOF.out hog
end Go.Proofs.YtogobjmmgjfjjaaGreat
