/- What is proved: a contract of ullagelaw07.awake: it answers true. Conditions: none. -/
import Derived.Test.YtogobjmmgjfjjaaH2
import Derived.Laws.StructEq
namespace Go.Proofs.Ytogobjmmgjfjjaa
open Go.RowKit

/-- Two systems, the first one below the second one. -/
structure Two (w w1 : World) (X1 X2 : SX) (S1 S2 : Sys) : Prop where
  a : SysAt w1 X1 S1
  b : SysAt w1 X2 S2
  below : Below w.heap.size w w1
  lo : w.heap.size ≤ X1.lo
  hi : X1.hi ≤ X2.lo
section
variable {w w1 w2 : World} {X1 X2 : SX} {S1 S2 S' : Sys}
theorem Two.first (h : Two w w1 X1 X2 S1 S2) (ha : SysAt w2 X1 S') (hc : Chg X1 w1 w2) : Two w w2 X1 X2 S' S2 := by
  have l := h.a.lo; have u := h.a.hi; have lo := h.lo; have hi := h.hi; have z := h.below.size; have v := h.b.hi
  exact ⟨ha, h.b.keep (fun b h1 h2 => hc.block b (by omega) (by omega) (by omega) (by omega)) hc.size, h.below.trans (hc.below z (by omega) (by omega) (by omega)), lo, hi⟩
theorem Two.second (h : Two w w1 X1 X2 S1 S2) (ha : SysAt w2 X2 S') (hc : Chg X2 w1 w2) : Two w w2 X1 X2 S1 S' := by
  have l := h.b.lo; have u := h.a.hi; have lo := h.lo; have hi := h.hi; have z := h.below.size; have v := h.b.hi; have l1 := h.a.lo
  exact ⟨h.a.keep (fun b h1 h2 => hc.block b (by omega) (by omega) (by omega) (by omega)) hc.size, ha, h.below.trans (hc.below z (by omega) (by omega) (by omega)), lo, hi⟩
theorem Two.mem (h : Two w w1 X1 X2 S1 S2) (hb : Below w1.heap.size w1 w2) : Two w w2 X1 X2 S1 S2 :=
  ⟨h.a.below hb, h.b.below hb, h.below.trans (hb.mono h.below.size), h.lo, h.hi⟩
theorem Chg.bk {X : SX} {S : Sys} {g : Nat} {t : TypeId} {cs : Array Value} (hs : SysAt w1 X S) (hc : Chg X w1 w2) (h : Bk w1 g t cs) (h1 : t ≠ 81) (h2 : t ≠ 83) (h3 : t ≠ 3) : Bk w2 g t cs := by
  have ne : ∀ {g' t' : Nat} {c' : Array Value}, Bk w1 g' t' c' → t ≠ t' → g ≠ g' := by
    intro g' t' c' h' hne e
    subst e
    have e := h.symm.trans h'
    simp only [Option.some.injEq, Obj.cells.injEq] at e
    exact hne e.2.1
  exact (hc.block g h.lt (ne hs.s h1) (ne hs.t h2) (ne hs.c h3)).trans h
end
theorem startB_at (never : Bool) {P : Prop} {Q : Prop} (h : if plantB (exP never) = true then P else Q) : P := by rw [if_pos (exP_ok never)] at h; exact h

set_option maxRecDepth 100000 in
set_option maxHeartbeats 4000000 in
theorem awake_any (w : World) : Calls Try.prog 7 #[] w fun e w' => e = .returned (.bool true) ∧ Below w.heap.size w w' := by
  go_enter Try.func7, Try.ntmps7
  go_wp2_with fail
  refine (example_any w false).mono ?_
  rintro e w1 ⟨x1, rfl, hp1, hb1⟩
  have HN1 := Lib.hid (new_any w1 x1 (exP false) hp1)
  have HB1 := Lib.hid hb1
  clear hp1 hb1
  go_wp2_with fail
  refine HN1.out.mono ?_
  rintro e w2 ⟨hb2, h2⟩
  obtain ⟨X1, rfl, hs1, hlo1⟩ := startB_at false h2
  have HB2 := Lib.hid (HB1.out.trans (hb2.mono HB1.out.size))
  have HL1 := Lib.hid (Nat.le_trans HB1.out.size hlo1)
  have HS1 := Lib.hid hs1
  clear HN1 hb2 h2 hs1 hlo1 HB1
  go_wp2_with fail
  refine (example_any w2 true).mono ?_
  rintro e w3 ⟨x2, rfl, hp3, hb3⟩
  have HN2 := Lib.hid (new_any w3 x2 (exP true) hp3)
  have HB3 := Lib.hid hb3
  clear hp3 hb3
  go_wp2_with fail
  refine HN2.out.mono ?_
  rintro e w4 ⟨hb4, h4⟩
  obtain ⟨X2, rfl, hs2, hlo2⟩ := startB_at true h4
  have H4 : Hid (Two w w4 X1 X2 (startB (exP false)) (startB (exP true))) := Lib.hid
    ⟨(HS1.out.below HB3.out).below hb4, hs2, HB2.out.trans ((HB3.out.trans (hb4.mono HB3.out.size)).mono HB2.out.size), HL1.out, by have := HS1.out.hi.2.2.2.2; have := HB3.out.size; omega⟩
  clear HN2 hb4 h4 hs2 hlo2 HS1 HL1 HB2 HB3
  go_wp2_with fail
  have c := put_any w4 X1 _ H4.out.a 0 80 0
  rw [exS_put] at c
  refine c.mono ?_
  rintro e w5 ⟨rfl, hs, hc⟩
  have H5 := Lib.hid (H4.out.first hs hc)
  clear c hs hc H4
  go_wp2_with fail
  refine (sysOrder_any w5 X1 _ H5.out.a 0 true).mono ?_
  rintro e w6 ⟨rfl, hs, hc⟩
  have H6 := Lib.hid (H5.out.first hs hc)
  clear hs hc H5
  go_wp2_with fail
  refine (sysOrder_any w6 X1 _ H6.out.a 1 true).mono ?_
  rintro e w7 ⟨rfl, hs, hc⟩
  have H7 := Lib.hid (H6.out.first hs hc)
  clear hs hc H6
  go_wp2_with fail
  refine (tick_any w7 X1 _ H7.out.a).mono ?_
  rintro e w8 ⟨rfl, hs, hc⟩
  have H8 := Lib.hid (H7.out.first hs hc)
  clear hs hc H7
  go_wp2_with fail
  refine (tick_any w8 X1 _ H8.out.a).mono ?_
  rintro e w9 ⟨rfl, hs, hc⟩
  have H9 : Hid (Two w w9 X1 X2 exS (startB (exP true))) := Lib.hid (H8.out.first hs hc)
  clear hs hc H8
  go_wp2_with fail
  have c := number_any w9 X1 exS H9.out.a 0 0 0 0
  rw [exS_a] at c
  refine c.mono ?_
  rintro e w10 ⟨rfl, hb⟩
  have H10 := Lib.hid (H9.out.mem hb)
  clear c hb H9
  go_wp2_with fail
  have c := number_any w10 X1 exS H10.out.a 0 1 0 0
  rw [exS_b] at c
  refine c.mono ?_
  rintro e w11 ⟨rfl, hb⟩
  have H11 := Lib.hid (H10.out.mem hb)
  clear c hb H10
  go_wp2_with fail
  have c := number_any w11 X1 exS H11.out.a 1 0 0 0
  rw [exS_c] at c
  refine c.mono ?_
  rintro e w12 ⟨rfl, hb⟩
  have H12 := Lib.hid (H11.out.mem hb)
  clear c hb H11
  go_wp2_with fail
  refine (example_any w12 false).mono ?_
  rintro e w13 ⟨x3, rfl, hp, hb⟩
  have H13 := Lib.hid (H12.out.mem hb)
  have HPA : Hid (∀ o, o = Obj.cells #[.int .i64 0, .bool true] 51 → Calls Try.prog 10 #[.agg (plantA x3 (exP false)), .slice (some ⟨w13.heap.size, 0, none⟩) 1 1] (w13.alloc o)
      fun e w' => ∃ g cap cs, e = .returned (.tuple #[.slice (some ⟨g, 0, none⟩) 1 cap, .int .i64 0]) ∧ Bk w' g 45 cs ∧ cs[0]? = some (.int .i64 0) ∧ cs[1]? = some (.bool true) ∧ Below (w13.alloc o).heap.size (w13.alloc o) w') := Lib.hid (by
    rintro o rfl
    have hbo : Below w13.heap.size w13 (w13.alloc (.cells #[.int .i64 0, .bool true] 51)) := (Below.refl _ _).alloc (Nat.le_refl _) _
    have hn := Bk.new w13 51 #[.int .i64 0, .bool true]
    have c := path_any (w13.alloc (.cells #[.int .i64 0, .bool true] 51)) x3 (exP false) ((hp.below hbo).mono (by simp)) (some ⟨w13.heap.size, 0, none⟩) 1 [⟨0, true⟩]
      ⟨by show 1 ≤ _; omega, fun _ => ⟨_, 0, rfl, hn.lt, all1 (all2 (hn.cell _) (hn.cell _))⟩⟩
    rw [exPath1] at c
    refine c.mono ?_
    rintro e w' ⟨v, rfl, hv, hb'⟩
    rcases hv with ⟨h, _⟩ | ⟨g, cap, rfl, ⟨cs, q1, _, q3⟩, _⟩
    · cases h
    · exact ⟨g, cap, cs, rfl, q1, (q3 0 (by decide)).1, (q3 0 (by decide)).2, hb'⟩)
  clear hp hb H12
  go_wp2_with fail
  refine (HPA.out _ rfl).mono ?_
  rintro e w14 ⟨g, cap, cs, rfl, hg, hg0, hg1, hb⟩
  have H14 := Lib.hid ((H13.out.mem ((Below.refl _ _).alloc (Nat.le_refl _) _)).mem hb)
  have HG := Lib.hid hg
  have HG0 := Lib.hid hg0
  have HG1 := Lib.hid hg1
  clear hg hg0 hg1 hb H13 HPA
  go_wp2_with fail
  refine (example_any w14 true).mono ?_
  rintro e w15 ⟨x4, rfl, hp, hb⟩
  have H15 := Lib.hid (H14.out.mem hb)
  have HG15 := Lib.hid (HG.out.below hb HG.out.lt)
  have HPA : Hid (∀ o, o = Obj.cells #[.int .i64 0, .bool true, .int .i64 1, .bool true] 51 → Calls Try.prog 10 #[.agg (plantA x4 (exP true)), .slice (some ⟨w15.heap.size, 0, none⟩) 2 2] (w15.alloc o)
      fun e w' => ∃ v, e = .returned (.tuple #[v, .int .i64 7]) ∧ Below (w15.alloc o).heap.size (w15.alloc o) w') := Lib.hid (by
    rintro o rfl
    have hbo : Below w15.heap.size w15 (w15.alloc (.cells #[.int .i64 0, .bool true, .int .i64 1, .bool true] 51)) := (Below.refl _ _).alloc (Nat.le_refl _) _
    have hn := Bk.new w15 51 #[.int .i64 0, .bool true, .int .i64 1, .bool true]
    have c := path_any (w15.alloc (.cells #[.int .i64 0, .bool true, .int .i64 1, .bool true] 51)) x4 (exP true) ((hp.below hbo).mono (by simp)) (some ⟨w15.heap.size, 0, none⟩) 2 [⟨0, true⟩, ⟨1, true⟩]
      ⟨by show 2 ≤ _; omega, fun _ => ⟨_, 0, rfl, hn.lt, all2 (all2 (hn.cell _) (hn.cell _)) (all2 (hn.cell _) (hn.cell _))⟩⟩
    rw [exPath2] at c
    refine c.mono ?_
    rintro e w' ⟨v, rfl, _, hb'⟩
    exact ⟨v, rfl, hb'⟩)
  clear hp hb H14 HG
  go_wp2_with fail
  refine (HPA.out _ rfl).mono ?_
  rintro e w16 ⟨v, rfl, hb⟩
  have hb' : Below w15.heap.size w15 w16 := Below.trans ((Below.refl _ w15).alloc (Nat.le_refl _) _) (hb.mono (by simp))
  have H16 := Lib.hid (H15.out.mem hb')
  have HG16 := Lib.hid (HG15.out.below hb' HG15.out.lt)
  clear hb hb' H15 HPA HG15
  go_wp2_with fail
  have c := loss_any w16 100 60 0 30 1 2
  rw [exLoss] at c
  refine c.mono ?_
  rintro e w17 ⟨rfl, rfl⟩
  clear c
  go_wp2_with fail
  have c := sysOrder_any w16 X2 _ H16.out.b 0 true
  rw [exT_1] at c
  refine c.mono ?_
  rintro e w18 ⟨rfl, hs, hc⟩
  have H18 := Lib.hid (H16.out.second hs hc)
  have HG18 := Lib.hid (Chg.bk H16.out.b hc HG16.out (by decide) (by decide) (by decide))
  clear c hs hc H16 HG16
  go_wp2_with fail
  have c := sysOrder_any w18 X2 _ H18.out.b 1 true
  rw [exT_2] at c
  refine c.mono ?_
  rintro e w19 ⟨rfl, hs, hc⟩
  have H19 := Lib.hid (H18.out.second hs hc)
  have hg := Chg.bk H18.out.b hc HG18.out (by decide) (by decide) (by decide)
  have g0 : w19.cell? ⟨g, 0, none⟩ = some (.int .i64 0) := (hg.cell 0).trans HG0.out
  have g1 : w19.cell? ⟨g, 1, none⟩ = some (.bool true) := (hg.cell 1).trans HG1.out
  clear c hs hc H18 HG18 hg
  go_wp2_with fail
  go_ret
  exact ⟨rfl, H19.out.below⟩
end Go.Proofs.Ytogobjmmgjfjjaa
