/- What is proved: contracts of engine.safe and its closures. Conditions: the plant lies in memory as the plain data say; its literals name valves. -/
import Derived.Test.YtogobjmmgjfjjaaB2
import Derived.Test.YtogobjmmgjfjjaaReg2
import Derived.Laws.EntriesVeiled
namespace Go.Proofs.Ytogobjmmgjfjjaa
open Go.RowKit

theorem und_plant : Try.prog.underlying 33 = some (.struct (match Try.prog.underlying 33 with | some (.struct f) => f | _ => #[])) := by kernel_rfl
theorem info_plant : (Try.prog.info? 33).map (·.size) = some 4 := by kernel_rfl
def plantA (x : PV) (p : PlantD) : Array Value := #[.slice x.tA p.tanks.length x.tc, .slice x.vA p.valves.length x.vc, .slice x.lA p.lines.length x.lc, .slice x.nA p.never.length x.nc]
theorem und_lit : Try.prog.underlying 51 = some (.struct (match Try.prog.underlying 51 with | some (.struct f) => f | _ => #[])) := by kernel_rfl
theorem info_lit : (Try.prog.info? 51).map (·.size) = some 2 := by kernel_rfl

def PlacesOk (s : Spots) : Prop := ∀ i, -128 ≤ (s i).place ∧ (s i).place ≤ 127

set_option maxRecDepth 100000 in
set_option maxHeartbeats 1000000 in
theorem may_any (w : World) (x : PV) (p : PlantD) (h : PlantAt w w.heap.size x p) (s : Spots) (hs : PlacesOk s) (v : Nat) (o : Bool) (hv : v < p.valves.length) (h12 : v < 12)
    (sb pb : Nat) (hsb : Bk w sb 74 (spotsA s)) (hpb : Bk w pb 33 (plantA x p)) :
    Calls Try.prog 80 #[.agg #[.int .i64 v, .bool o], .pointer (some ⟨sb, 0, none⟩), .pointer (some ⟨pb, 0, none⟩)] w
      fun e w' => e = .returned (.bool (mayB p s ⟨v, o⟩)) ∧ Below w.heap.size w w' := by
  have hvi : (v : Int) < (p.valves.length : Int) := by omega
  have h12i : (v : Int) < (12 : Int) := by omega
  have h0i : (0 : Int) ≤ (v : Int) := by omega
  have g := spots_get s v h12
  have hsl := hsb.lt
  have hpl := hpb.lt
  have hsl1 : sb < w.heap.size + 1 := by omega
  have e0 := (hsb.cell (v * 2 + 1)).trans g.2
  have hb0 : ∀ ob, Below w.heap.size w (w.alloc ob) := fun ob => (Below.refl _ _).alloc (Nat.le_refl _) _
  cases hb : ((s v).opn == o) with
  | true =>
    have Hf : Hid (mayB p s ⟨v, o⟩ = true) := Lib.hid (by unfold mayB; simp [hb])
    clear hsb hpb
    go_enter Try.func80, Try.ntmps80
    go_wp2
    go_quiet (fail)
    go_wp2
    go_ret
    exact ⟨ret_bool (by rw [Hf.out]), below_drewN (hb0 _) _⟩
  | false =>
    have Hf : Hid (mayB p s ⟨v, o⟩ = holdsB p s ⟨v, o⟩) := Lib.hid (by unfold mayB; simp [hb])
    go_enter Try.func80, Try.ntmps80
    go_wp2
    obtain ⟨W, hW⟩ : ∃ W, W = w.alloc (.cells #[.int .i64 v, .bool o] 51) := ⟨_, rfl⟩
    have hWs : W.heap.size = w.heap.size + 1 := by rw [hW]; simp
    have hbW : Below w.heap.size w W := by rw [hW]; exact hb0 _
    have hlb : Bk W w.heap.size 51 #[.int .i64 v, .bool o] := by rw [hW]; exact Bk.new _ _ _
    rw [← hW]
    clear hW
    have HH := Lib.hid fun (w1 : World) (hw1 : Below W.heap.size W w1) => holds_any w1 x p ((h.below (hbW.trans (hw1.mono (by omega)))).mono (by have := hw1.size; omega)) s v o hv h12 hs
    refine wp_region_steps (by kernel_rfl) (by kernel_rfl) (fun w1 => Below W.heap.size W w1) (fun _ _ _ => True)
      (fun i u _ _ => match i with
        | 0 => u = .pointer (some ⟨w.heap.size, 0, none⟩)
        | 1 => u = .int .i64 v
        | 2 => u = .pointer (some ⟨sb, v * 2, none⟩)
        | 3 => u = .pointer (some ⟨sb, v * 2 + 1, none⟩)
        | 4 => u = .bool (s v).opn
        | 5 => u = .pointer (some ⟨w.heap.size, 1, none⟩)
        | 6 => u = .bool o
        | 7 => u = .bool false
        | 8 => u = .bool false
        | 9 => u = .agg (plantA x p)
        | 10 => u = .agg (spotsA s)
        | 11 => u = .agg #[.int .i64 v, .bool o]
        | _ => u = .bool (holdsB p s ⟨v, o⟩)) (Below.refl _ _).drew (fun _ _ _ _ _ _ _ _ h _ _ => h) ?_ ?_
    · have HC := Lib.hid fun (w1 : World) (hw1 : Below W.heap.size W w1) => (⟨(hw1.cell (p := ⟨w.heap.size, 0, none⟩) hlb.lt).trans (hlb.cell 0), (hw1.cell (p := ⟨w.heap.size, 1, none⟩) hlb.lt).trans (hlb.cell 1), (hw1.cell (p := ⟨sb, v * 2 + 1, none⟩) (by simp; omega)).trans ((hbW.cell (p := ⟨sb, v * 2 + 1, none⟩) hsl).trans e0)⟩ : _ ∧ _ ∧ _)
      have HP := Lib.hid fun (w1 : World) (hw1 : Below W.heap.size W w1) => (⟨(hpb.below hbW hpl).below hw1 (by omega), (hsb.below hbW hsl).below hw1 (by omega), hlb.below hw1 hlb.lt⟩ : _ ∧ _ ∧ _)
      have hbb := Lib.hid hb
      clear hb hsb hpb hlb e0 g h hs
      refine ⟨?_, ?_, ?_, ?_, ?_, ?_, ?_, ?_, ?_, ?_, ?_, ?_, ?_, ?_, ?_, trivial⟩
      · intro a w vs K HJ HK HD HN k; have k3 := HK 3 (by decide); go_simp; exact k _ _ (by simp) HJ trivial rfl
      · intro a w vs K HJ HK HD HN k; have e0 := (HD 0 _ 5 rfl rfl rfl).1.trans (HD 0 _ 5 rfl rfl rfl).2; have c := (HC.out w HJ).1; go_simp; exact k _ _ (by simp) HJ trivial rfl
      · intro a w vs K HJ HK HD HN k; have k1 := HK 1 (by decide); have e1 := (HD 1 _ 6 rfl rfl rfl).1.trans (HD 1 _ 6 rfl rfl rfl).2; go_simp; exact k _ _ (by simp) HJ trivial rfl
      · intro a w vs K HJ HK HD HN k; have e2 := (HD 2 _ 7 rfl rfl rfl).1.trans (HD 2 _ 7 rfl rfl rfl).2; go_simp; exact k _ _ (by simp) HJ trivial rfl
      · intro a w vs K HJ HK HD HN k; have e3 := (HD 3 _ 8 rfl rfl rfl).1.trans (HD 3 _ 8 rfl rfl rfl).2; have c := (HC.out w HJ).2.2; go_simp; exact k _ _ (by simp) HJ trivial rfl
      · intro a w vs K HJ HK HD HN k; have k3 := HK 3 (by decide); go_simp; exact k _ _ (by simp) HJ trivial rfl
      · intro a w vs K HJ HK HD HN k; have e5 := (HD 5 _ 10 rfl rfl rfl).1.trans (HD 5 _ 10 rfl rfl rfl).2; have c := (HC.out w HJ).2.1; go_simp; exact k _ _ (by simp) HJ trivial rfl
      · intro a w vs K HJ HK HD HN k; have e4 := (HD 4 _ 9 rfl rfl rfl).1.trans (HD 4 _ 9 rfl rfl rfl).2; have e6 := (HD 6 _ 11 rfl rfl rfl).1.trans (HD 6 _ 11 rfl rfl rfl).2; go_simp; exact k _ _ (by simp) HJ trivial (by show Value.bool ((s v).opn == o) = _; rw [hbb.out])
      · intro a w vs K HJ HK HD HN k; have e7 := (HD 7 _ 12 rfl rfl rfl).1.trans (HD 7 _ 12 rfl rfl rfl).2; go_simp; exact k _ _ (by simp) HJ trivial rfl
      · intro a w vs K HJ HK HD HN k; have k2 := HK 2 (by decide); have g8 := (HD 8 _ 13 rfl rfl rfl).1.trans (HD 8 _ 13 rfl rfl rfl).2; rw [if_pos (wanted_yes 8 false rfl rfl rfl g8)]
        exact wpo_loadS 33 (.tmp 2) rfl pb 0 (by simpa [Act.eval] using k2) (plantA x p) _ (fun j u hj => by rw [(HP.out w HJ).1.cell]; simpa using hj) und_plant rfl info_plant (k _ _ (by simp) HJ trivial rfl)
      · intro a w vs K HJ HK HD HN k; have k1 := HK 1 (by decide); have g8 := (HD 8 _ 13 rfl rfl rfl).1.trans (HD 8 _ 13 rfl rfl rfl).2; rw [if_pos (wanted_yes 8 false rfl rfl rfl g8)]
        exact wpo_loadS 74 (.tmp 1) rfl sb 0 (by simpa [Act.eval] using k1) (spotsA s) _ (fun j u hj => by rw [(HP.out w HJ).2.1.cell]; simpa using hj) und_spots rfl (info_spots_s _) (k _ _ (by simp) HJ trivial rfl)
      · intro a w vs K HJ HK HD HN k; have k3 := HK 3 (by decide); have g8 := (HD 8 _ 13 rfl rfl rfl).1.trans (HD 8 _ 13 rfl rfl rfl).2; rw [if_pos (wanted_yes 8 false rfl rfl rfl g8)]
        exact wpo_loadS 51 (.tmp 3) rfl _ 0 (by simpa [Act.eval] using k3) #[.int .i64 v, .bool o] _ (fun j u hj => by rw [(HP.out w HJ).2.2.cell]; simpa using hj) und_lit rfl info_lit (k _ _ (by simp) HJ trivial rfl)
      · intro a w vs K HJ HK HD HN k
        have e9 := (HD 9 _ 14 rfl rfl rfl).1.trans (HD 9 _ 14 rfl rfl rfl).2; have e10 := (HD 10 _ 15 rfl rfl rfl).1.trans (HD 10 _ 15 rfl rfl rfl).2; have e11 := (HD 11 _ 16 rfl rfl rfl).1.trans (HD 11 _ 16 rfl rfl rfl).2; have g8 := (HD 8 _ 13 rfl rfl rfl).1.trans (HD 8 _ 13 rfl rfl rfl).2; rw [if_pos (wanted_yes 8 false rfl rfl rfl g8)]
        exact wpo_call 43 _ _ rfl #[.agg (plantA x p), .agg (spotsA s), .agg #[.int .i64 v, .bool o]] (by simp [Act.eval, e9, e10, e11]) (fun args w => by kernel_rfl)
          ((HH.out w HJ).mono fun e w' ⟨he, hb⟩ => ⟨_, he, k _ _ (by simp) (HJ.trans (hb.mono HJ.size)) trivial rfl⟩)
      · intro a w vs K HJ HK HD HN k
        have e8 := (HD 8 _ 13 rfl rfl rfl).1.trans (HD 8 _ 13 rfl rfl rfl).2; have e12 := (HD 12 _ 17 rfl rfl rfl).1.trans (HD 12 _ 17 rfl rfl rfl).2; go_simp; exact k _ _ (by simp) HJ trivial rfl
      · intro a w vs K HJ HK HD HN k
        have e13 := (HD 13 _ 18 rfl rfl rfl).1.trans (HD 13 _ 18 rfl rfl rfl).2; go_simp; exact k _ _ (by simp) HJ trivial rfl
    · intro vs w1 hw1 hr
      have h14 : vs 14 = _ := hr 14 _ rfl
      clear hr HH hsb hpb
      simp only [putAll, Act.put, h14]
      go_simp
      go_wp2
      go_ret
      exact ⟨ret_bool (by rw [Hf.out]), hbW.trans (hw1.mono (by omega))⟩
end Go.Proofs.Ytogobjmmgjfjjaa
