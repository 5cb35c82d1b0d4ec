/- What is proved: the texts Ai Aj Ak Al Am An Ao, one behind the other; each says at its head what it proves, and under which conditions. -/
import Derived.Maps.Keyed
import Derived.DeepKeys4
import Derived.Test.Ytnmccbjdfdbgpaan5
/- What is proved: contracts of slices.Index, slices.Contains at int8, of path.behind, path.has, of council.faulty. Conditions: those that each lemma states. -/
namespace Go.Proofs.Ytnmccbjdfdbgpaa
open Go.RowKit

/-- The numbers l lie at A, in bytes. -/
def Ints8At (w : World) (B : Nat) (A : Option Addr) (l : List Int) : Prop := Sl w B 1 A l.length fun i _ => .int .i8 (getI l i)
set_option maxRecDepth 100000 in
set_option maxHeartbeats 4000000 in
theorem index8_any (w : World) (A : Option Addr) (c : Nat) (l : List Int) (x : Int) (h : Ints8At w w.heap.size A l) :
    Calls Try.prog 103 #[.slice A l.length c, .int .i8 x] w fun e w' => ∃ r : Int, e = .returned (.int .i64 r) ∧ decide (0 ≤ r) = hasB l x ∧ w' = w := by
  have HL := Lib.hid h
  have hll := h.1
  obtain ⟨n, hn⟩ : ∃ n, l.length = n := ⟨_, rfl⟩
  have HN := Lib.hid hn
  have HD : Hid (hasB l x = !(allN n fun i => !decide (getI l i = x))) := Lib.hid (by unfold hasB; rw [hn])
  obtain ⟨R, hR⟩ : ∃ R, hasB l x = R := ⟨_, rfl⟩
  have HFIN : Hid (∀ (r : Int) (e : Ending) (w' : World), decide (0 ≤ r) = R → e = .returned (.int .i64 r) → w' = w → ∃ r : Int, e = .returned (.int .i64 r) ∧ decide (0 ≤ r) = R ∧ w' = w) := Lib.hid fun r _ _ h a b => ⟨r, a, h, b⟩
  rw [hn] at hll ⊢
  rw [hR] at HD ⊢
  clear h hn hR
  go_enter Try.func103, Try.ntmps103
  go_wp2_with fail
  go_loopw [8] (fun i wr => ∃ k : Nat, k ≤ n ∧ i = .int .i64 k ∧ Hid (wr = w ∧ (∀ j, j < k → ¬ getI l j = x))) (fun i _ => n - (intOf i).toNat)
  case atStart => exact ⟨0, Nat.zero_le _, rfl, Lib.hid ⟨rfl, fun j hj => absurd hj (Nat.not_lt_zero j)⟩⟩
  case round =>
    obtain ⟨k, hk, rfl, hs⟩ := hrel
    obtain ⟨hw, hno⟩ := hs.out
    subst hw
    have HNO := Lib.hid hno
    clear hno hs
    by_cases hlt : k < n
    · have hki : (k : Int) < (n : Int) := by omega
      have h0k : (0 : Int) ≤ (k : Int) := by omega
      have hkt : k < l.length := by rw [HN.out]; exact hlt
      obtain ⟨bb, off, rfl, _, d0⟩ := Sl.at1 HL.out hkt
      obtain ⟨y, hy⟩ : ∃ y, getI l k = y := ⟨_, rfl⟩
      have HY := Lib.hid hy
      try dsimp only at d0
      rw [hy] at d0
      clear hy
      by_cases he : y = x
      · have HR : Hid (R = true) := Lib.hid (by
          rw [HD.out]
          cases ha : allN n fun i => !decide (getI l i = x) with
          | false => rfl
          | true =>
            have := allN_iff.1 ha k hlt
            rw [HY.out] at this
            simp [he] at this)
        subst he
        go_wp2_with fail
        go_ret
        exact HFIN.out (k : Int) _ _ (by rw [HR.out]; exact decide_eq_true (by omega)) rfl rfl
      · have HE := Lib.hid he
        have he1 : (x == y) = false := by rw [beq_eq_false_iff_ne]; exact fun h => he h.symm
        have he2 : ¬ x = y := fun h => he h.symm
        go_wp2_with fail
        go_roundw
        case rel => exact ⟨k + 1, by omega, by go_num, Lib.hid ⟨by first | exact trivial | rfl, fun j hj => by
          by_cases e : j = k
          · subst e; rw [HY.out]; exact HE.out
          · exact HNO.out j (by omega)⟩⟩
        case measure => simp [intOf]; omega
    · obtain rfl : k = n := by omega
      have HR : Hid (R = false) := Lib.hid (by
        rw [HD.out, allN_iff.2 fun i hi => by simpa using HNO.out i hi]; rfl)
      go_wp2_with fail
      go_ret
      exact HFIN.out (-1) _ _ (by rw [HR.out]; rfl) rfl rfl

set_option maxRecDepth 100000 in
theorem contains8_any (w : World) (A : Option Addr) (c : Nat) (l : List Int) (x : Int) (h : Ints8At w w.heap.size A l) :
    Calls Try.prog 88 #[.slice A l.length c, .int .i8 x] w fun e w' => e = .returned (.bool (hasB l x)) ∧ w' = w := by
  have H := Lib.hid (index8_any w A c l x h)
  clear h
  go_enter Try.func88, Try.ntmps88
  go_wp2_with fail
  refine H.out.mono ?_
  rintro e w' ⟨r, rfl, hr, rfl⟩
  have HR := Lib.hid hr
  clear hr
  go_wp2_with fail
  go_ret
  exact ⟨ret_bool (by simpa using HR.out), rfl⟩

/-- The cells of a path. -/
def pathA (p : List Int) : Array Value := #[.int .i8 (getI p 0), .int .i8 (getI p 1), .int .i8 (getI p 2), .int .i64 p.length]
theorem pathA0 : pathA [] = #[.int .i8 0, .int .i8 0, .int .i8 0, .int .i64 0] := rfl
theorem pathA1 (x : Int) : pathA [x] = #[.int .i8 x, .int .i8 0, .int .i8 0, .int .i64 1] := rfl
theorem pathA2 (x y : Int) : pathA [x, y] = #[.int .i8 x, .int .i8 y, .int .i8 0, .int .i64 2] := rfl
theorem pathA3 (x y z : Int) : pathA [x, y, z] = #[.int .i8 x, .int .i8 y, .int .i8 z, .int .i64 3] := rfl
theorem infoPath : (Try.prog.info? 131).map (·.size) = some 4 := by kernel_rfl
theorem und_struct {P : Program} {t : TypeId} (h : (match P.underlying t with | some (.struct _) => true | _ => false) = true) : ∃ fs, P.underlying t = some (.struct fs) := by
  split at h
  · rename_i fs e; exact ⟨fs, e⟩
  · cases h
theorem undPath : ∃ fs, Try.prog.underlying 131 = some (.struct fs) := und_struct (by kernel_rfl)
theorem results_f75 (tmps : Array Value) (w : World) (g : Nat) (cs : Array Value) (hp : tmps.getD 4 undef = .pointer (some ⟨g, 0, none⟩)) (hg : Bk w g 131 cs) (h2 : cs.size = 4) :
    (results Try.f75 tmps).run Try.prog w = .ok (.agg cs) w := by
  obtain ⟨fs, hu⟩ := undPath
  exact results_cellS (P := Try.prog) rfl tmps w g _ cs _ hp hg hu rfl (by rw [h2]; exact infoPath)
set_option maxRecDepth 100000 in
set_option maxHeartbeats 4000000 in
theorem behind0 (w : World) (i : Int) (h1 : -1 ≤ i) (h2 : i ≤ 100) :
    Calls Try.prog 75 #[.agg #[.int .i8 0, .int .i8 0, .int .i8 0, .int .i64 0], .int .i64 i] w fun e w' => e = .returned (.agg (pathA [i])) ∧ Below w.heap.size w w' := by
  go_enter Try.func75, Try.ntmps75
  go_wp2_with fail
  refine bodyPost_ret (v := .agg (pathA [i])) ?_ rfl ⟨rfl, ?_⟩
  · exact results_f75 _ _ (w.heap.size + 1) _ rfl (by have := Bk.new (w.alloc (.cells (pathA [i]) 131)) 131 (pathA [i]); rwa [World.size_alloc] at this) rfl
  · exact ((Below.refl _ _).alloc (Nat.le_refl _) _).alloc (by simp) _
set_option maxRecDepth 100000 in
set_option maxHeartbeats 4000000 in
theorem behind1 (w : World) (x i : Int) (h1 : -1 ≤ i) (h2 : i ≤ 100) :
    Calls Try.prog 75 #[.agg #[.int .i8 x, .int .i8 0, .int .i8 0, .int .i64 1], .int .i64 i] w fun e w' => e = .returned (.agg (pathA [x, i])) ∧ Below w.heap.size w w' := by
  go_enter Try.func75, Try.ntmps75
  go_wp2_with fail
  refine bodyPost_ret (v := .agg (pathA [x, i])) ?_ rfl ⟨rfl, ?_⟩
  · exact results_f75 _ _ (w.heap.size + 1) _ rfl (by have := Bk.new (w.alloc (.cells (pathA [x, i]) 131)) 131 (pathA [x, i]); rwa [World.size_alloc] at this) rfl
  · exact ((Below.refl _ _).alloc (Nat.le_refl _) _).alloc (by simp) _
set_option maxRecDepth 100000 in
set_option maxHeartbeats 4000000 in
theorem behind2 (w : World) (x y i : Int) (h1 : -1 ≤ i) (h2 : i ≤ 100) :
    Calls Try.prog 75 #[.agg #[.int .i8 x, .int .i8 y, .int .i8 0, .int .i64 2], .int .i64 i] w fun e w' => e = .returned (.agg (pathA [x, y, i])) ∧ Below w.heap.size w w' := by
  go_enter Try.func75, Try.ntmps75
  go_wp2_with fail
  refine bodyPost_ret (v := .agg (pathA [x, y, i])) ?_ rfl ⟨rfl, ?_⟩
  · exact results_f75 _ _ (w.heap.size + 1) _ rfl (by have := Bk.new (w.alloc (.cells (pathA [x, y, i]) 131)) 131 (pathA [x, y, i]); rwa [World.size_alloc] at this) rfl
  · exact ((Below.refl _ _).alloc (Nat.le_refl _) _).alloc (by simp) _
theorem behind_any (w : World) (p : List Int) (i : Int) (hp : p.length < 3) (h1 : -1 ≤ i) (h2 : i ≤ 100) :
    Calls Try.prog 75 #[.agg (pathA p), .int .i64 i] w fun e w' => e = .returned (.agg (pathA (p ++ [i]))) ∧ Below w.heap.size w w' := by
  match p, hp with
  | [], _ => exact behind0 w i h1 h2
  | [x], _ => exact behind1 w x i h1 h2
  | [x, y], _ => exact behind2 w x y i h1 h2
  | _ :: _ :: _ :: _, hp => simp only [List.length_cons] at hp; omega
set_option maxRecDepth 100000 in
set_option maxHeartbeats 4000000 in
theorem path_has (w : World) (p : List Int) (a b c i : Int) (n : Nat) (hn : n ≤ 3) (h1 : 0 ≤ i) (h2 : i ≤ 100) (hl : p.length = n) (h0 : Ints8At (w.alloc (.cells #[.int .i8 a, .int .i8 b, .int .i8 c, .int .i64 n] 131)) (w.heap.size + 1) (some ⟨w.heap.size, 0, none⟩) p) :
    Calls Try.prog 77 #[.agg #[.int .i8 a, .int .i8 b, .int .i8 c, .int .i64 n], .int .i64 i] w fun e w' => e = .returned (.bool (hasB p i)) ∧ Below w.heap.size w w' := by
  have HC := Lib.hid fun cc => contains8_any _ (some ⟨w.heap.size, 0, none⟩) cc p i (by rw [World.size_alloc]; exact h0)
  have HL := Lib.hid hl
  rw [hl] at HC
  clear h0 hl
  have hni : (n : Int) ≤ 3 := by omega
  go_enter Try.func77, Try.ntmps77
  go_wp2_with fail
  refine (HC.out 3).mono ?_
  rintro e w' ⟨rfl, rfl⟩
  go_wp2_with fail
  go_ret
  exact ⟨rfl, (Below.refl _ _).alloc (Nat.le_refl _) _⟩
theorem pathHas_any (w : World) (p : List Int) (i : Int) (hp : p.length ≤ 3) (h1 : 0 ≤ i) (h2 : i ≤ 100) :
    Calls Try.prog 77 #[.agg (pathA p), .int .i64 i] w fun e w' => e = .returned (.bool (hasB p i)) ∧ Below w.heap.size w w' := by
  refine path_has w p _ _ _ i p.length hp h1 h2 rfl ⟨by omega, fun hn => ⟨w.heap.size, 0, rfl, Nat.lt_succ_self _, fun j hj k hk => ?_⟩⟩
  obtain rfl : k = 0 := by omega
  rw [(Bk.new w 131 _).cell]
  match j, (by omega : j < 3) with
  | 0, _ => rfl
  | 1, _ => rfl
  | 2, _ => rfl
set_option maxRecDepth 100000 in
set_option maxHeartbeats 4000000 in
theorem faulty_any (w : World) (N F i : Int) (A : Option Addr) (c : Nat) (l : List Int) (M : Value) (h : IntsAt w w.heap.size A l) :
    Calls Try.prog 65 #[.agg #[.int .i64 N, .int .i64 F, .slice A l.length c, M], .int .i64 i] w fun e w' => e = .returned (.bool (hasB l i)) ∧ Below w.heap.size w w' := by
  have hb : Below w.heap.size w (w.alloc (.cells #[.int .i64 N, .int .i64 F, .slice A l.length c, M] 102)) := (Below.refl _ _).alloc (Nat.le_refl _) _
  have HC := Lib.hid (contains_any _ A c l i (Sl.mono (Sl.below h hb) hb.size))
  clear h
  go_enter Try.func65, Try.ntmps65
  go_wp2_with fail
  refine HC.out.mono ?_
  rintro e w' ⟨rfl, rfl⟩
  go_wp2_with fail
  go_ret
  exact ⟨rfl, hb⟩
end Go.Proofs.Ytnmccbjdfdbgpaa
/- What is proved: a contract of council.valid. Conditions: the list of the faulty lies in memory. -/
namespace Go.Proofs.Ytnmccbjdfdbgpaa
open Go.RowKit

/-- The member before the k-th faulty one. -/
def lastC (l : List Int) : Nat → Int
  | 0 => -1
  | k + 1 => getI l k
def okC (N : Int) (l : List Int) (k : Nat) : Bool := decide (lastC l k < getI l k) && decide (getI l k < N)
def councilB (N F : Int) (l : List Int) : Bool := allN l.length (okC N l) && inB N 1 7 && inB F 0 2 && decide (3 * F < N) && decide ((l.length : Int) ≤ F)
theorem councilB_no {N F : Int} {l : List Int} {k : Nat} (hk : k < l.length) (h : okC N l k = false) : councilB N F l = false := by
  unfold councilB
  have : allN l.length (okC N l) = false := by
    cases ha : allN l.length (okC N l) with
    | false => rfl
    | true => rw [allN_iff.1 ha k hk] at h; cases h
  rw [this]; rfl
set_option maxRecDepth 100000 in
set_option maxHeartbeats 8000000 in
theorem council_any (w : World) (N F : Int) (A : Option Addr) (c : Nat) (l : List Int) (M : Value) (h : IntsAt w w.heap.size A l) :
    Calls Try.prog 56 #[.agg #[.int .i64 N, .int .i64 F, .slice A l.length c, M]] w fun e w' => e = .returned (.bool (councilB N F l)) ∧ Below w.heap.size w w' := by
  have hb : Below w.heap.size w (w.alloc (.cells #[.int .i64 N, .int .i64 F, .slice A l.length c, M] 102)) := (Below.refl _ _).alloc (Nat.le_refl _) _
  obtain ⟨W1, hW1⟩ : ∃ W1, w.alloc (.cells #[.int .i64 N, .int .i64 F, .slice A l.length c, M] 102) = W1 := ⟨_, rfl⟩
  have hk1 : Bk W1 w.heap.size 102 #[.int .i64 N, .int .i64 F, .slice A l.length c, M] := by rw [← hW1]; exact Bk.new _ _ _
  rw [hW1] at hb
  have HB := Lib.hid hb
  have HL := Lib.hid (Sl.mono (Sl.below h hb) hb.size : IntsAt W1 W1.heap.size A l)
  have c0 : W1.cell? ⟨w.heap.size, 0, none⟩ = some (.int .i64 N) := hk1.cell 0
  have c1 : W1.cell? ⟨w.heap.size, 1, none⟩ = some (.int .i64 F) := hk1.cell 1
  have c2 : W1.cell? ⟨w.heap.size, 2, none⟩ = some (.slice A l.length c) := hk1.cell 2
  have hll := h.1
  obtain ⟨n, hn⟩ : ∃ n, l.length = n := ⟨_, rfl⟩
  have HN := Lib.hid hn
  obtain ⟨R, hR⟩ : ∃ R, councilB N F l = R := ⟨_, rfl⟩
  have HR := Lib.hid hR
  have HFIN : Hid (∀ (b : Bool) (e : Ending), b = R → e = .returned (.bool b) → e = .returned (.bool R) ∧ Below w.heap.size w W1) := Lib.hid fun b e h1 h2 => by subst h1; exact ⟨h2, HB.out⟩
  rw [hn] at hll hW1 c2 ⊢
  rw [hR]
  clear h hn hR hb hk1
  go_enter Try.func56, Try.ntmps56
  go_wp2_with fail
  go_loopw [3, 10] (fun la i wr => ∃ k : Nat, k ≤ n ∧ i = .int .i64 k ∧ la = .int .i64 (lastC l k) ∧ Hid (wr = W1 ∧ ∀ j, j < k → okC N l j = true)) (fun _ i _ => n - (intOf i).toNat)
  case atStart => exact ⟨0, Nat.zero_le _, rfl, rfl, Lib.hid ⟨rfl, fun j hj => absurd hj (Nat.not_lt_zero j)⟩⟩
  case round =>
    obtain ⟨k, hk, rfl, rfl, hs⟩ := hrel
    obtain ⟨hw, hno⟩ := hs.out
    subst hw
    have HNO := Lib.hid hno
    clear hno hs
    by_cases hlt : k < n
    · have hki : (k : Int) < (n : Int) := by omega
      have h0k : (0 : Int) ≤ (k : Int) := by omega
      have hkt : k < l.length := by rw [HN.out]; exact hlt
      obtain ⟨bb, off, rfl, _, d0⟩ := Sl.at1 HL.out hkt
      obtain ⟨y, hy⟩ : ∃ y, getI l k = y := ⟨_, rfl⟩
      obtain ⟨la, hla⟩ : ∃ la, lastC l k = la := ⟨_, rfl⟩
      have HOK : Hid (okC N l k = (decide (la < y) && decide (y < N))) := Lib.hid (by unfold okC; rw [hy, hla])
      have HNX : Hid (lastC l (k + 1) = y) := Lib.hid hy
      try dsimp only at d0
      rw [hy] at d0
      rw [hla]
      clear hy hla
      by_cases he : y ≤ la
      · have HRF : Hid (R = false) := Lib.hid (by rw [← HR.out]; exact councilB_no hkt (by rw [HOK.out, decide_eq_false (by omega)]; rfl))
        go_wp2_with fail
        go_ret
        exact HFIN.out false _ (by rw [HRF.out]) rfl
      · by_cases he2 : N ≤ y
        · have HRF : Hid (R = false) := Lib.hid (by rw [← HR.out]; exact councilB_no hkt (by rw [HOK.out, decide_eq_false (p := y < N) (by omega), Bool.and_false]))
          go_wp2_with fail
          go_ret
          exact HFIN.out false _ (by rw [HRF.out]) rfl
        · have HRT : Hid (okC N l k = true) := Lib.hid (by rw [HOK.out, decide_eq_true (by omega), decide_eq_true (by omega)]; rfl)
          go_wp2_with fail
          go_roundw
          case rel => exact ⟨k + 1, by omega, by go_num, by rw [HNX.out], Lib.hid ⟨by first | exact trivial | rfl, fun j hj => by
            by_cases e : j = k
            · subst e; exact HRT.out
            · exact HNO.out j (by omega)⟩⟩
          case measure => simp [intOf]; omega
    · obtain rfl : k = n := by omega
      have HRT : Hid (R = (inB N 1 7 && inB F 0 2 && decide (3 * F < N) && decide ((k : Int) ≤ F))) := Lib.hid (by
        rw [← HR.out]
        unfold councilB
        rw [HN.out, allN_iff.2 fun i hi => HNO.out i hi, Bool.true_and])
      have fin : ∀ b : Bool, (inB N 1 7 && inB F 0 2 && decide (3 * F < N) && decide ((k : Int) ≤ F)) = b → b = R := fun b h => by rw [HRT.out, h]
      have HF2 := Lib.hid fin
      clear fin
      cases e1 : inB N 1 7 with
      | false =>
        go_wp2_with fail
        refine (within_any _ _ _ _).mono ?_
        rintro e w' ⟨rfl, rfl⟩
        rw [e1]
        go_wp2_with fail
        go_ret
        exact HFIN.out false _ (HF2.out _ (by rw [e1]; rfl)) rfl
      | true =>
        have hN := inB_iff.1 e1
        cases e2 : inB F 0 2 with
        | false =>
          go_wp2_with fail
          refine (within_any _ _ _ _).mono ?_
          rintro e w' ⟨rfl, rfl⟩
          rw [e1]
          go_wp2_with fail
          refine (within_any _ _ _ _).mono ?_
          rintro e w' ⟨rfl, rfl⟩
          rw [e2]
          go_wp2_with fail
          go_ret
          exact HFIN.out false _ (HF2.out _ (by rw [e1, e2]; rfl)) rfl
        | true =>
          have hF := inB_iff.1 e2
          go_wp2_with fail
          refine (within_any _ _ _ _).mono ?_
          rintro e w' ⟨rfl, rfl⟩
          rw [e1]
          go_wp2_with fail
          refine (within_any _ _ _ _).mono ?_
          rintro e w' ⟨rfl, rfl⟩
          rw [e2]
          by_cases h3 : 3 * F < N
          · have g3 : decide (3 * F < N) = true := decide_eq_true h3
            by_cases h4 : (k : Int) ≤ F
            · have g4 : decide ((k : Int) ≤ F) = true := decide_eq_true h4
              go_wp2_with fail
              go_ret
              exact HFIN.out true _ (HF2.out _ (by rw [e1, e2, g3, g4]; rfl)) rfl
            · have g4 : decide ((k : Int) ≤ F) = false := decide_eq_false h4
              go_wp2_with fail
              go_ret
              exact HFIN.out false _ (HF2.out _ (by rw [e1, e2, g3, g4]; rfl)) rfl
          · have g3 : decide (3 * F < N) = false := decide_eq_false h3
            go_wp2_with fail
            go_ret
            exact HFIN.out false _ (HF2.out _ (by rw [e1, e2, g3]; rfl)) rfl
end Go.Proofs.Ytnmccbjdfdbgpaa
/- What is proved: keys that are a path and a member; what a council learns of lies, and that it is the document's. Conditions: those that each lemma states. -/
namespace Go.Proofs.Ytnmccbjdfdbgpaa
open Go.RowKit Go.Maps Go.WideMaps

/-! The keys. -/
theorem laidOut : laidOutB Try.prog = true := by kernel_rfl
theorem rowTold : (135 : TypeId) < Try.prog.types.size := of_decide_eq_true (by kernel_rfl)
theorem wideTold : (match Try.prog.underlying 135 with | some (.array _ _) | some (.struct _) => true | _ => false) = true := by kernel_rfl
set_option maxRecDepth 100000 in
theorem toldKeyed : Keyed Try.prog 135 := Keyed.of_law (deep_law_laid laidOut (m := 4) (by omega) rowTold (by kernel_rfl) wideTold)
theorem cellsTold : Try.prog.cellsOf 135 = 5 := by kernel_rfl
theorem cellsPath : Try.prog.cellsOf 131 = 4 := by kernel_rfl
theorem cellsAt : Try.prog.cellsOf 129 = 3 := by kernel_rfl
theorem cellsI8 : Try.prog.cellsOf 128 = 1 := by kernel_rfl
theorem cellsI64 : Try.prog.cellsOf 3 = 1 := by kernel_rfl
theorem sizeTypes : ∃ d, Try.prog.types.size + 1 = d + 1 + 1 + 1 + 1 := ⟨Try.prog.types.size - 3, by
  have : (decide (3 ≤ Try.prog.types.size)) = true := by kernel_rfl
  have := of_decide_eq_true this; omega⟩
theorem fieldsTold : ∃ fs, Try.prog.underlying 135 = some (.struct fs) ∧ fs.all (·.name != "_") = true ∧ fs.toList.map (fun f => (f.type, f.offset)) = [(131, 0), (3, 4)] := ⟨(match Try.prog.underlying 135 with | some (.struct f) => f | _ => #[]), by kernel_rfl, by kernel_rfl, by kernel_rfl⟩
theorem fieldsPath : ∃ fs, Try.prog.underlying 131 = some (.struct fs) ∧ fs.all (·.name != "_") = true ∧ fs.toList.map (fun f => (f.type, f.offset)) = [(129, 0), (3, 3)] := ⟨(match Try.prog.underlying 131 with | some (.struct f) => f | _ => #[]), by kernel_rfl, by kernel_rfl, by kernel_rfl⟩
theorem undAt : Try.prog.underlying 129 = some (.array 3 128) := by kernel_rfl
theorem keyTypeTold : Try.prog.keyType 135 = true := by kernel_rfl
def wf8 (x : Int) : Prop := (Lit.int .i8 x).wf = true
def wf64 (x : Int) : Prop := (Lit.int .i64 x).wf = true
theorem wf8_of {x : Int} (h1 : -128 ≤ x) (h2 : x ≤ 127) : wf8 x := by
  have e1 : IntKind.i8.min = -128 := by decide
  have e2 : IntKind.i8.max = 127 := by decide
  unfold wf8
  simp [Lit.wf, e1, e2]
  omega
theorem wf64_of {x : Int} (h1 : -9223372036854775808 ≤ x) (h2 : x ≤ 9223372036854775807) : wf64 x := by
  have e1 : IntKind.i64.min = -9223372036854775808 := by decide
  have e2 : IntKind.i64.max = 9223372036854775807 := by decide
  unfold wf64
  simp [Lit.wf, e1, e2]
  omega
theorem keyAt (d : Nat) (a b c : Int) (ha : wf8 a) (hb : wf8 b) (hc : wf8 c) : Try.prog.keyLits (d + 1 + 1) 129 [.int .i8 a, .int .i8 b, .int .i8 c] = some [.int .i8 a, .int .i8 b, .int .i8 c] := by
  unfold wf8 at ha hb hc
  conv => lhs; unfold Program.keyLits
  simp [cellsAt, cellsI8, List.range, List.range.loop, Program.keyLits, ha, hb, hc]
theorem keyPath (d : Nat) (a b c n : Int) (ha : wf8 a) (hb : wf8 b) (hc : wf8 c) (hn : wf64 n) : Try.prog.keyLits (d + 1 + 1 + 1) 131 [.int .i8 a, .int .i8 b, .int .i8 c, .int .i64 n] = some [.int .i8 a, .int .i8 b, .int .i8 c, .int .i64 n] := by
  obtain ⟨fs, h1, h2, h3⟩ := fieldsPath
  have hk := keyAt d a b c ha hb hc
  unfold wf64 at hn
  have key : ∀ (l : List Field), l.map (fun f => (f.type, f.offset)) = [(129, 0), (3, 3)] → l.mapM (fun f => Try.prog.keyLits (d + 1 + 1) f.type (([.int .i8 a, .int .i8 b, .int .i8 c, .int .i64 n] : List Value).drop f.offset |>.take (Try.prog.cellsOf f.type))) = some [[.int .i8 a, .int .i8 b, .int .i8 c], [.int .i64 n]] := by
    intro l hl
    rcases l with _ | ⟨f, _ | ⟨g, _ | ⟨g2, l⟩⟩⟩
    · simp at hl
    · simp at hl
    · simp only [List.map_cons, List.map_nil, List.cons.injEq, Prod.mk.injEq, and_true] at hl
      obtain ⟨⟨a1, a2⟩, b1, b2⟩ := hl
      have h64 : Try.prog.keyLits (d + 1 + 1) 3 [.int .i64 n] = some [.int .i64 n] := by simp [Program.keyLits, hn]
      simp [a1, a2, b1, b2, cellsAt, cellsI64, hk, h64]
    · simp at hl
  unfold Program.keyLits
  simp only [h1, List.length_cons, List.length_nil, cellsPath, h2, and_self, if_true, key _ h3]
  rfl
theorem keyTold (d : Nat) (a b c n t : Int) (ha : wf8 a) (hb : wf8 b) (hc : wf8 c) (hn : wf64 n) (ht : wf64 t) : Try.prog.keyLits (d + 1 + 1 + 1 + 1) 135 [.int .i8 a, .int .i8 b, .int .i8 c, .int .i64 n, .int .i64 t] = some [.int .i8 a, .int .i8 b, .int .i8 c, .int .i64 n, .int .i64 t] := by
  obtain ⟨fs, h1, h2, h3⟩ := fieldsTold
  have hk := keyPath d a b c n ha hb hc hn
  unfold wf64 at ht
  have key : ∀ (l : List Field), l.map (fun f => (f.type, f.offset)) = [(131, 0), (3, 4)] → l.mapM (fun f => Try.prog.keyLits (d + 1 + 1 + 1) f.type (([.int .i8 a, .int .i8 b, .int .i8 c, .int .i64 n, .int .i64 t] : List Value).drop f.offset |>.take (Try.prog.cellsOf f.type))) = some [[.int .i8 a, .int .i8 b, .int .i8 c, .int .i64 n], [.int .i64 t]] := by
    intro l hl
    rcases l with _ | ⟨f, _ | ⟨g, _ | ⟨g2, l⟩⟩⟩
    · simp at hl
    · simp at hl
    · simp only [List.map_cons, List.map_nil, List.cons.injEq, Prod.mk.injEq, and_true] at hl
      obtain ⟨⟨a1, a2⟩, b1, b2⟩ := hl
      have h64 : Try.prog.keyLits (d + 1 + 1 + 1) 3 [.int .i64 t] = some [.int .i64 t] := by simp [Program.keyLits, ht]
      simp [a1, a2, b1, b2, cellsPath, cellsI64, hk, h64]
    · simp at hl
  unfold Program.keyLits
  simp only [h1, List.length_cons, List.length_nil, cellsTold, h2, and_self, if_true, key _ h3]
  rfl
def toldA (p : List Int) (t : Int) : Array Value := #[.int .i8 (getI p 0), .int .i8 (getI p 1), .int .i8 (getI p 2), .int .i64 p.length, .int .i64 t]
theorem told_formed (p : List Int) (t : Int) : (Value.agg (toldA p t)).formed Try.prog 135 = true := by
  obtain ⟨fs, h1, h2, h3⟩ := fieldsTold
  simp only [Value.formed, h1, cellsTold]; rfl
structure PathOk (p : List Int) : Prop where
  len : p.length ≤ 3
  mem : ∀ i, i < p.length → -1 ≤ getI p i ∧ getI p i ≤ 100
theorem getI_out {p : List Int} {i : Nat} (h : p.length ≤ i) : getI p i = 0 := by
  unfold getI; rw [List.getD_eq_getElem?_getD, List.getElem?_eq_none h]; rfl
theorem PathOk.wf {p : List Int} (h : PathOk p) (i : Nat) : wf8 (getI p i) := by
  rcases Nat.lt_or_ge i p.length with hi | hi
  · have := h.mem i hi; exact wf8_of (by omega) (by omega)
  · rw [getI_out hi]; exact wf8_of (by omega) (by omega)
theorem keyOfTold {p : List Int} {t : Int} (h : PathOk p) (ht : wf64 t) : ∃ l, keyOf Try.prog 135 (.agg (toldA p t)) = some l := by
  obtain ⟨d, hd⟩ := sizeTypes
  obtain ⟨fs, h1, h2, h3⟩ := fieldsTold
  unfold keyOf
  simp only [h1, keyTypeTold, told_formed, Bool.and_self, if_true, hd]
  have := h.len
  rw [show (Value.agg (toldA p t)).cells.toList = [.int .i8 (getI p 0), .int .i8 (getI p 1), .int .i8 (getI p 2), .int .i64 p.length, .int .i64 t] from rfl, keyTold d _ _ _ _ _ (h.wf 0) (h.wf 1) (h.wf 2) (wf64_of (by omega) (by omega)) ht]
  exact ⟨_, rfl⟩
theorem toldA_inj {p q : List Int} {t u : Int} (hp : p.length ≤ 3) (_hq : q.length ≤ 3) (h : Value.agg (toldA p t) = .agg (toldA q u)) : p = q ∧ t = u := by
  unfold toldA at h
  simp only [Value.agg.injEq, Array.mk.injEq, List.cons.injEq, Value.int.injEq, true_and, and_true] at h
  obtain ⟨h0, h1, h2, h3, h4⟩ := h
  have hl : p.length = q.length := by omega
  refine ⟨List.ext_getElem hl fun i hi hj => ?_, h4⟩
  have e : ∀ (l : List Int) (k : Nat) (hk : k < l.length), getI l k = l[k] := fun l k hk => by
    unfold getI; rw [List.getD_eq_getElem?_getD, List.getElem?_eq_getElem hk]; rfl
  rw [← e p i hi, ← e q i hj]
  match i, (by omega : i < 3) with
  | 0, _ => exact h0
  | 1, _ => exact h1
  | 2, _ => exact h2
theorem underlyingTI : Try.prog.underlying 100 = some (.map 135 3) := by kernel_rfl
theorem zeroTI (w : World) : (zeroValue 3).run Try.prog w = .ok (.int .i64 0) w := by kernel_rfl

/-! What is learnt. -/
structure LieD where
  frame : Int
  path : List Int
  to : Int
  value : Int
def lie0 : LieD := ⟨0, [], 0, 0⟩
def lieAt (l : List LieD) (k : Nat) : LieD := l.getD k lie0
def normI (N i : Int) : Int := if inB i 0 (N - 1) = true then i else -1
def normP (N : Int) (p : List Int) : List Int := p.map (normI N)
abbrev Know := List ((List Int × Int) × Int)
def lookB (q : Know) (p : List Int) (t : Int) : Option Int := (q.find? fun x => decide (x.1 = (p, t))).map (·.2)
def hearsB (F frame : Int) (x : LieD) : Bool := decide (x.frame = frame) && inB x.path.length 1 (F + 1)
def learnS (N F frame : Int) (q : Know) (x : LieD) : Know :=
  if hearsB F frame x = true then (match lookB q (normP N x.path) x.to with | some _ => q | none => q ++ [((normP N x.path, x.to), x.value)]) else q
def learnK (N F frame : Int) (l : List LieD) : Nat → Know
  | 0 => []
  | k + 1 => learnS N F frame (learnK N F frame l k) (lieAt l k)
def learnB (N F frame : Int) (l : List LieD) : Know := learnK N F frame l l.length
/-- What the document says that a faulty one tells. -/
def lieB (l : List LieD) (frame : Int) (p : List Int) (t : Int) : Option Int := (l.find? fun x => decide (x.frame = frame) && decide (x.to = t) && decide (x.path = p)).map (·.value)
theorem normP_in {N : Int} {p : List Int} (h : ∀ x, x ∈ p → 0 ≤ x ∧ x ≤ N - 1) : normP N p = p := by
  unfold normP
  conv => rhs; rw [← List.map_id p]
  exact List.map_congr_left fun x hx => by unfold normI; rw [if_pos (inB_iff.2 (h x hx))]; rfl
theorem normP_eq {N : Int} {p q : List Int} (h : ∀ x, x ∈ p → 0 ≤ x ∧ x ≤ N - 1) (e : normP N q = p) : q = p := by
  have : ∀ x, x ∈ q → 0 ≤ x ∧ x ≤ N - 1 := fun x hx => by
    have hm : normI N x ∈ p := by rw [← e]; exact List.mem_map.2 ⟨x, hx, rfl⟩
    have hh := h _ hm
    unfold normI at hh
    by_cases hi : inB x 0 (N - 1) = true
    · exact inB_iff.1 hi
    · rw [if_neg hi] at hh; omega
  rw [← e, normP_in this]
theorem look_snoc (q : Know) (p : List Int) (t : Int) (p' : List Int) (t' v : Int) : lookB (q ++ [((p', t'), v)]) p t = (lookB q p t).or (if (p', t') = (p, t) then some v else none) := by
  unfold lookB
  rw [List.find?_append]
  cases q.find? fun x => decide (x.1 = (p, t)) with
  | some y => rfl
  | none =>
    simp only [List.find?_cons, List.find?_nil, Option.none_or, Option.map_none]
    by_cases e : (p', t') = (p, t)
    · rw [if_pos e]; simp [e]
    · rw [if_neg e]; simp [e]
theorem learnK_look {N F frame : Int} {l : List LieD} {p : List Int} {t : Int} (hp : ∀ x, x ∈ p → 0 ≤ x ∧ x ≤ N - 1) (h1 : 1 ≤ p.length) (h2 : (p.length : Int) ≤ F + 1) :
    ∀ k, k ≤ l.length → lookB (learnK N F frame l k) p t = lieB (l.take k) frame p t
  | 0, _ => rfl
  | k + 1, hk => by
    have ih := learnK_look (F := F) hp h1 h2 (l := l) (frame := frame) (t := t) k (by omega)
    have hx : l[k]? = some (lieAt l k) := by unfold lieAt; rw [List.getD_eq_getElem?_getD, List.getElem?_eq_getElem (by omega)]; rfl
    have hr : lieB (l.take (k + 1)) frame p t = (lieB (l.take k) frame p t).or (if decide ((lieAt l k).frame = frame) && decide ((lieAt l k).to = t) && decide ((lieAt l k).path = p) then some (lieAt l k).value else none) := by
      unfold lieB
      rw [List.take_add_one, hx, List.find?_append]
      cases (l.take k).find? fun x => decide (x.frame = frame) && decide (x.to = t) && decide (x.path = p) with
      | some y => rfl
      | none =>
        simp only [Option.toList_some, List.find?_cons, List.find?_nil, Option.none_or, Option.map_none]
        cases (decide ((lieAt l k).frame = frame) && decide ((lieAt l k).to = t) && decide ((lieAt l k).path = p)) <;> rfl
    rw [hr, ← ih]
    show lookB (learnS N F frame (learnK N F frame l k) (lieAt l k)) p t = _
    generalize lieAt l k = x
    generalize learnK N F frame l k = q
    unfold learnS
    by_cases hh : hearsB F frame x = true
    · rw [if_pos hh]
      unfold hearsB at hh
      rw [Bool.and_eq_true, decide_eq_true_eq] at hh
      have hkey : ((normP N x.path, x.to) = (p, t)) ↔ (x.to = t ∧ x.path = p) := by
        constructor
        · intro e
          rw [Prod.mk.injEq] at e
          exact ⟨e.2, normP_eq hp e.1⟩
        · rintro ⟨rfl, rfl⟩
          rw [normP_in hp]
      cases hlo : lookB q (normP N x.path) x.to with
      | some y =>
        simp only
        by_cases e : x.to = t ∧ x.path = p
        · have e2 := hkey.2 e
          rw [Prod.mk.injEq] at e2
          rw [e2.1, e2.2] at hlo
          rw [hlo]; rfl
        · have : (decide (x.frame = frame) && decide (x.to = t) && decide (x.path = p)) = false := by
            rw [Bool.and_assoc, Bool.and_eq_false_iff]
            right
            rw [← Bool.decide_and]
            exact decide_eq_false e
          rw [this]; simp
      | none =>
        simp only
        rw [look_snoc]
        congr 1
        by_cases e : x.to = t ∧ x.path = p
        · rw [if_pos (hkey.2 e), decide_eq_true hh.1, decide_eq_true e.1, decide_eq_true e.2]; rfl
        · have : (decide (x.frame = frame) && decide (x.to = t) && decide (x.path = p)) = false := by
            rw [Bool.and_assoc, Bool.and_eq_false_iff]
            right
            rw [← Bool.decide_and]
            exact decide_eq_false e
          rw [if_neg (fun h => e (hkey.1 h)), this]; rfl
    · rw [if_neg hh]
      have : (decide (x.frame = frame) && decide (x.to = t) && decide (x.path = p)) = false := by
        cases hd : (decide (x.frame = frame) && decide (x.to = t) && decide (x.path = p)) with
        | false => rfl
        | true =>
          exfalso
          simp only [Bool.and_eq_true, decide_eq_true_eq] at hd
          apply hh
          unfold hearsB
          rw [Bool.and_eq_true, decide_eq_true_eq]
          refine ⟨hd.1.1, inB_iff.2 ?_⟩
          rw [hd.2]
          omega
      rw [this]; simp
theorem learn_look {N F frame : Int} {l : List LieD} {p : List Int} {t : Int} (hp : ∀ x, x ∈ p → 0 ≤ x ∧ x ≤ N - 1) (h1 : 1 ≤ p.length) (h2 : (p.length : Int) ≤ F + 1) : lookB (learnB N F frame l) p t = lieB l frame p t := by
  unfold learnB
  rw [learnK_look hp h1 h2 _ (Nat.le_refl _), List.take_length]
end Go.Proofs.Ytnmccbjdfdbgpaa
/- What is proved: a rule for a region whose order is drawn, in which all is read, and then one operation turns memory: one walk in the order of the text. Conditions: those that the rule states. -/
namespace Go.Proofs.Ytnmccbjdfdbgpaa
open Go.RowKit

def finOk (l : List Oper) (m : Nat) : Bool :=
  decide (m + 1 = l.length) && (l.all fun o => o.guard.isNone) && ((List.range m).all fun i => ancB l l.length m i) &&
  ((List.range m).all fun i => match l[i]? with | some o => o.dst.isSome | none => false) && l.all (readsOk l) && Region.noSelect l.toArray
section
variable {P : Program} {l : List Oper} {ops : Array Oper} {C : World → Prop}
theorem take_at {m i : Nat} (him : i < m) {o : Oper} (hi : l[i]? = some o) : ∃ pre post, l.take m = pre ++ o :: post ∧ (∀ x ∈ o :: post, ∃ k, i ≤ k ∧ l[k]? = some x) := by
  have hil : i < l.length := (List.getElem?_eq_some_iff.1 hi).1
  have hio : l[i] = o := (List.getElem?_eq_some_iff.1 hi).2
  refine ⟨l.take i, (l.take m).drop (i + 1), ?_, fun x hx => ?_⟩
  · have h1 : i < (l.take m).length := by simp; omega
    have := List.take_append_drop i (l.take m)
    rw [List.drop_eq_getElem_cons h1] at this
    rw [List.take_take, Nat.min_eq_left (by omega)] at this
    refine this.symm.trans ?_
    rw [show (List.take m l)[i] = o from by simp [hio]]
  · rw [List.mem_cons] at hx
    rcases hx with rfl | hx
    · exact ⟨i, Nat.le_refl _, hi⟩
    · obtain ⟨k, hk⟩ := List.getElem?_of_mem hx
      rw [List.getElem?_drop, List.getElem?_take] at hk
      split at hk
      · exact ⟨i + 1 + k, by omega, hk⟩
      · cases hk
theorem take_in {m : Nat} {x : Oper} (hx : x ∈ l.take m) : ∃ k, k < m ∧ l[k]? = some x := by
  obtain ⟨k, hk⟩ := List.getElem?_of_mem hx
  rw [List.getElem?_take] at hk
  split at hk
  · exact ⟨k, by omega, hk⟩
  · cases hk
theorem wp_region_fin {Q : Exit → Act → World → Prop} {a0 : Act} {id : Nat} {W : World} (m : Nat) (om : Oper) (hmm : l[m]? = some om) (hom : om.dst = none) (hm : P.follows .mixedOrders = true)
    (hB : regB l a0.tmps.size = true) (hU : finOk l m = true) (End : World → Prop)
    (h : wpQuiet P l.toArray (fun w' => ∃ x : Ext W, w' = x.w) (fun F =>
      (∀ w1, Below W.heap.size W w1 → ∀ K : Act → World → Prop, (∀ w2, End w2 → K (F.put om.dst undef) w2) → om.wp P F w1 K (fun _ _ _ => False)) ∧
      (∀ w2, End w2 → Q .normal (F.put om.dst undef) w2)) (l.take m) a0) : (Code.region id l.toArray true).wp P Q a0 W := by
  unfold finOk at hU
  simp only [Bool.and_eq_true, decide_eq_true_eq] at hU
  obtain ⟨⟨⟨⟨⟨u1, u3⟩, u4⟩, u7⟩, u8⟩, u9⟩ := hU
  rw [List.all_eq_true] at u3 u4 u7 u8
  have hsel : ∀ (i : Nat) (o : Oper), l[i]? = some o → ∀ cs b', o.op ≠ .select cs b' := fun i o hi cs b' => Region.noSelect_spec u9 i o cs b' (by simpa using hi)
  have hguard : ∀ (i : Nat) (o : Oper), l[i]? = some o → o.guard = none := fun i o hi => by
    have := u3 o (List.mem_of_getElem? hi)
    simpa using this
  have hdst : ∀ (i : Nat) (o : Oper), i < m → l[i]? = some o → ∃ d, o.dst = some d ∧ d < a0.tmps.size := fun i o him hi => by
    have := u7 i (by simpa using him)
    rw [hi] at this
    obtain ⟨d, hd⟩ := Option.isSome_iff_exists.1 this
    exact ⟨d, hd, (regB_dst hB hi hd).1⟩
  have hpw : (l.take m).Pairwise (fun x y => x.dst ≠ y.dst) := by
    have hall : l.Pairwise (fun x y => x.dst = none ∨ x.dst ≠ y.dst) := by
      rw [List.pairwise_iff_getElem]
      intro i j hi hj hij
      cases hx : l[i].dst with
      | none => exact Or.inl rfl
      | some d =>
        right
        intro e
        have := regB_ne hB (i := i) (j := j) (o := l[i]) (o' := l[j]) (by simp) (by simp) hx e.symm
        omega
    have h2 := hall.sublist (List.take_sublist m l)
    refine List.Pairwise.imp_of_mem (fun {x y} hx _ hxy => ?_) h2
    obtain ⟨k, hk1, hk3⟩ := take_in hx
    obtain ⟨d, hd, _⟩ := hdst k x hk1 hk3
    rcases hxy with h' | h'
    · rw [hd] at h'; cases h'
    · exact h'
  obtain ⟨F, ⟨hstore, hfin⟩, f2, f3, f4, f5⟩ := quiet_all _ a0 (fun x hx => by obtain ⟨k, _, hk⟩ := take_in hx; exact hguard k x hk)
    (fun x hx => by obtain ⟨k, hk1, hk⟩ := take_in hx; exact hdst k x hk1 hk) hpw h
  have f4' : ∀ t, (∀ o ∈ l, o.dst ≠ some t) → F.tmps.getD t undef = a0.tmps.getD t undef := fun t ht => f4 t fun x hx => by
    obtain ⟨k, _, hk⟩ := take_in hx
    exact ht x (List.mem_of_getElem? hk)
  have hFc : ∀ i o d, l[i]? = some o → i < m → o.dst = some d → ∃ A v, (∀ w, (∃ x : Ext W, w = x.w) → o.quietAt P A (fun w' => ∃ x : Ext W, w' = x.w) w v) ∧ F.tmps.getD d undef = v ∧ (∀ t, (∀ k x, i ≤ k → l[k]? = some x → x.dst ≠ some t) → A.tmps.getD t undef = F.tmps.getD t undef) := by
    intro i o d hi him hd
    obtain ⟨pre, post, e, hpost⟩ := take_at him hi
    obtain ⟨A, v, q1, q2, q3⟩ := f5 pre o post e
    refine ⟨A, v, q1, q2 d hd, fun t ht => q3 t fun x hx => ?_⟩
    obtain ⟨k, hk1, hk2⟩ := hpost x hx
    exact ht k x hk1 hk2
  refine wp_region_extJ hm hB (fun dn _ w => if dn m = true then End w else Below W.heap.size W w) (fun _ _ _ => True)
    (fun i v _ _ => i ≠ m → ∀ o d, l[i]? = some o → o.dst = some d → v = F.tmps.getD d undef) (fun vs => ?_) (fun i j _ _ v d w w' h _ => h) ?_ ?_
  · rw [if_neg (by simp)]
    exact (Below.refl _ _).drew
  · intro i o hi a w vs dn hdf hsz hdone hafter hJ hkeep hval hR
    have hw : Region.wanted o (yielded l.toArray a.tmps) = true := by unfold Region.wanted; rw [hguard i o hi]
    rw [if_pos hw]
    have hil : i < l.length := (List.getElem?_eq_some_iff.1 hi).1
    have hread := u8 o (List.mem_of_getElem? hi)
    unfold readsOk at hread
    rw [List.all_eq_true] at hread
    have hslot : ∀ t, Operand.tmp t ∈ o.op.operands → (∃ j oj, afterB o j = true ∧ l[j]? = some oj ∧ oj.dst = some t) ∨ ∀ x ∈ l, x.dst ≠ some t := fun t ht => by
      have := hread (.tmp t) (Array.mem_toList_iff.2 ht)
      simp only [Bool.or_eq_true, List.any_eq_true, List.all_eq_true, Bool.and_eq_true, List.mem_range] at this
      rcases this with ⟨j, hj, h1, h2⟩ | h'
      · left
        rw [List.getElem?_eq_getElem hj] at h2
        exact ⟨j, l[j], h1, List.getElem?_eq_getElem hj, by simpa using h2⟩
      · right
        intro x hx
        have := h' x hx
        simpa using this
    have hkeep' : ∀ t, (∀ x ∈ l, x.dst ≠ some t) → a.tmps.getD t undef = a0.tmps.getD t undef := fun t ht => hkeep t (by
      unfold keepB
      rw [List.all_eq_true]
      intro j hj
      have hj' : j < l.length := by simpa using hj
      rw [List.getElem?_eq_getElem hj']
      have := ht l[j] (List.getElem_mem hj')
      simp [this])
    by_cases him : i = m
    · subst him
      obtain rfl : om = o := Option.some.inj (hmm.symm.trans hi)
      have hnm : dn i ≠ true := fun h' => (hdone i h').1 rfl
      rw [if_neg hnm] at hJ
      have hEq : execOp a.eval om = execOp F.eval om := eval_same (hsel i om hi) fun t ht => by
        rcases hslot t ht with ⟨j, oj, h1, h2, h3⟩ | hno
        · have hji : j < i := afterB_lt hB hi h1
          rw [hval j oj t h1 h2 h3, hR j oj h1 h2 (by omega) oj t h2 h3]
        · rw [hkeep' t hno, f4' t hno]
      have hst := hstore w hJ (fun a' w' => ∃ v, a' = F.put om.dst v ∧ End w') (fun w2 h2 => ⟨undef, rfl, h2⟩)
      have ht := wp_transfer (a := a) (Q := Q) hEq (fun d hd => by rw [hom] at hd; cases hd) hst
      refine Oper.wp_mono (fun a' w' ⟨v, e, he⟩ => ?_) ht
      refine ⟨undef, fun _ => rfl, by rw [e, hom]; rfl, ?_, trivial, fun h' => absurd rfl h'⟩
      rw [if_pos (by simp [updB])]; exact he
    · have hlt : i < m := by omega
      have hnm : dn m ≠ true := fun h' => by
        have := (hdone m h').2
        have h4 := u4 i (by simpa using hlt)
        rw [h4] at this; cases this
      rw [if_neg hnm] at hJ
      have hnm' : updB dn i m ≠ true := by unfold updB; rw [if_neg (fun h => him h.symm)]; exact hnm
      obtain ⟨d, hd, hdl⟩ := hdst i o hlt hi
      obtain ⟨A, v, q1, q2, q3⟩ := hFc i o d hi hlt hd
      have hEq : execOp a.eval o = execOp A.eval o := eval_same (hsel i o hi) fun t ht => by
        rcases hslot t ht with ⟨j, oj, h1, h2, h3⟩ | hno
        · have hji : j < i := afterB_lt hB hi h1
          rw [hval j oj t h1 h2 h3, hR j oj h1 h2 (by omega) oj t h2 h3, q3 t]
          intro k x hk hx e
          have := regB_ne hB hx h2 e h3
          omega
        · rw [hkeep' t hno, q3 t (fun k x _ hx => hno x (List.mem_of_getElem? hx)), f4' t hno]
      refine wp_of_quiet (C := fun w' => ∃ x : Ext W, w' = x.w) hEq ⟨⟨w, hJ⟩, rfl⟩ (q1 w ⟨⟨w, hJ⟩, rfl⟩) fun w' hw' _ => ?_
      obtain ⟨x, rfl⟩ := hw'
      refine ⟨v, (fun h' => by rw [hd] at h'; cases h'), rfl, ?_, trivial, fun _ o' d' ho' hd' => ?_⟩
      · rw [if_neg hnm']
        exact x.h
      · obtain rfl : o = o' := Option.some.inj (hi.symm.trans ho')
        obtain rfl : d = d' := Option.some.inj (hd.symm.trans hd')
        exact q2.symm
  · intro vs dn w hdn hJ hR
    rw [if_pos (hdn m (by omega))] at hJ
    have hfr : putAll l vs 0 a0 = F.put om.dst (vs m) := by
      obtain ⟨p1, p2⟩ := putAll_size l vs 0 a0
      refine frame_ext (by rw [p1, put_size, f2]) (by rw [p2, put_defers, f3]) fun t => ?_
      rw [hom]
      show _ = F.tmps.getD t undef
      by_cases ht : ∃ (j : Nat) (oj : Oper), l[j]? = some oj ∧ oj.dst = some t
      · obtain ⟨j, oj, h1, h2⟩ := ht
        have htl := (regB_dst hB h1 h2).1
        rw [putAll_at l t vs 0 a0 j oj h1 h2 htl (fun j' o' hj' ho' e => by have := regB_ne hB ho' h1 e h2; omega), Nat.zero_add]
        by_cases hjm : j = m
        · subst hjm
          obtain rfl : om = oj := Option.some.inj (hmm.symm.trans h1)
          rw [hom] at h2; cases h2
        · exact hR j oj h1 hjm oj t h1 h2
      · have hno : ∀ x ∈ l, x.dst ≠ some t := fun x hx e => by
          obtain ⟨j, hj⟩ := List.getElem?_of_mem hx
          exact ht ⟨j, x, hj, e⟩
        rw [putAll_other l t vs 0 a0 (fun j o hj => hno o (List.mem_of_getElem? hj)), f4' t hno]
    rw [hfr, hom]
    have hf := hfin w hJ
    rw [hom] at hf
    exact hf
end
end Go.Proofs.Ytnmccbjdfdbgpaa
/- What is proved: what a council knows, in memory. Conditions: those that each lemma states. -/
namespace Go.Proofs.Ytnmccbjdfdbgpaa
open Go.RowKit Go.Maps Go.WideMaps

def knowV (q : Know) : List (Value × Value) := q.map fun x => (.agg (toldA x.1.1 x.1.2), .int .i64 x.2)
structure KnowAt (w : World) (M : Nat) (q : Know) : Prop where
  map : KMap 135 w M (knowV q)
  ok : ∀ x, x ∈ q → PathOk x.1.1 ∧ wf64 x.1.2
theorem KnowAt.made (w : World) : KnowAt (w.alloc (.map #[] 0)) w.heap.size [] := ⟨KMap.made _ _, fun x h => by cases h⟩
theorem KnowAt.lt {w : World} {M : Nat} {q : Know} (h : KnowAt w M q) : M < w.heap.size := h.map.lt
theorem KnowAt.keep {w w' : World} {M : Nat} {q : Know} (h : KnowAt w M q) (hk : w'.heap[M]? = w.heap[M]?) : KnowAt w' M q := ⟨h.map.keep hk, h.ok⟩
theorem KnowAt.below {w w' : World} {M n₀ : Nat} {q : Know} (h : KnowAt w M q) (hb : Below n₀ w w') (hM : M < n₀) : KnowAt w' M q := h.keep (hb.block M hM)
theorem look_mem {q : Know} {p : List Int} {t v : Int} (h : lookB q p t = some v) : ((p, t), v) ∈ q := by
  unfold lookB at h
  rw [Option.map_eq_some_iff] at h
  obtain ⟨x, hx, rfl⟩ := h
  have h1 := List.mem_of_find?_eq_some hx
  have h2 := List.find?_some hx
  rw [decide_eq_true_eq] at h2
  rw [← h2]; exact h1
theorem look_none {q : Know} {p : List Int} {t : Int} (h : lookB q p t = none) : ∀ x, x ∈ q → x.1 ≠ (p, t) := by
  unfold lookB at h
  rw [Option.map_eq_none_iff] at h
  intro x hx
  have := List.find?_eq_none.1 h x hx
  simpa using this
/-- No key comes twice. -/
def Once (q : Know) : Prop := q.Pairwise fun x y => x.1 ≠ y.1
theorem look_one {q : Know} (ho : Once q) {p : List Int} {t v : Int} (h : lookB q p t = some v) : ∀ u, ((p, t), u) ∈ q → u = v := by
  intro u hu
  have hv := look_mem h
  have : ((p, t), u) = ((p, t), v) := by
    apply Classical.byContradiction
    intro hne
    obtain ⟨i, hi, e1⟩ := List.getElem_of_mem hu
    obtain ⟨j, hj, e2⟩ := List.getElem_of_mem hv
    rcases Nat.lt_trichotomy i j with hij | hij | hij
    · have := List.pairwise_iff_getElem.1 ho i j hi hj hij
      rw [e1, e2] at this; exact this rfl
    · subst hij; exact hne (e1.symm.trans e2)
    · have := List.pairwise_iff_getElem.1 ho j i hj hi hij
      rw [e1, e2] at this; exact this rfl
  simpa using this
theorem learnK_once {N F frame : Int} {l : List LieD} : ∀ k, Once (learnK N F frame l k)
  | 0 => List.Pairwise.nil
  | k + 1 => by
    have ih := learnK_once (N := N) (F := F) (frame := frame) (l := l) k
    show Once (learnS N F frame (learnK N F frame l k) (lieAt l k))
    unfold learnS
    split
    · split
      · exact ih
      · rename_i hn
        unfold Once at *
        rw [List.pairwise_append]
        exact ⟨ih, List.pairwise_singleton _ _, fun x hx y hy => by
          simp only [List.mem_singleton] at hy; subst hy
          exact look_none hn x hx⟩
    · exact ih
theorem KnowAt.look2 {w : World} {M : Nat} {q : Know} (h : KnowAt w M q) (ho : Once q) {p : List Int} {t : Int} (hp : PathOk p) (ht : wf64 t) (ok : Bool) :
    (Instr.lookup 100 (.map (some M)) (.agg (toldA p t)) ok).run Try.prog w = .ok (if ok then .tuple #[.int .i64 ((lookB q p t).getD 0), .bool (lookB q p t).isSome] else .int .i64 ((lookB q p t).getD 0)) w := by
  obtain ⟨lx, hx⟩ := keyOfTold hp ht
  obtain ⟨arr, clock, h1, h2, h3⟩ := h.map.find toldKeyed (.agg (toldA p t)) lx hx
  have g := run_getObj_map1 (P := Try.prog) h1
  have hc := fun em => toldKeyed.check w em hx
  rcases h3 with ⟨h3, hno⟩ | ⟨j, v, h3, hj⟩
  · have hn : lookB q p t = none := by
      cases hl : lookB q p t with
      | none => rfl
      | some v => exact absurd rfl (hno _ (List.mem_map.2 ⟨_, look_mem hl, rfl⟩))
    rw [hn]
    cases ok <;> simp [Instr.lookup, run_underlying underlyingTI, g, hc, h3, zeroTI w]
  · have hmem := List.mem_of_getElem? hj
    obtain ⟨x, hxq, e⟩ := List.mem_map.1 hmem
    rw [Prod.mk.injEq] at e
    obtain ⟨e1, e2⟩ := toldA_inj (h.ok x hxq).1.len hp.len e.1
    have hs : lookB q p t = some x.2 := by
      cases hl : lookB q p t with
      | none => exact absurd (Prod.ext e1 e2) (look_none hl x hxq)
      | some v =>
        have := look_one ho hl x.2 (by rw [← show x = ((p, t), x.2) from Prod.ext (Prod.ext e1 e2) rfl]; exact hxq)
        rw [this]
    have hv := e.2
    subst hv
    rw [hs]
    cases ok <;> simp [Instr.lookup, run_underlying underlyingTI, g, hc, h3]
theorem KnowAt.put {w : World} {M : Nat} {q : Know} (h : KnowAt w M q) {p : List Int} {t : Int} (hp : PathOk p) (ht : wf64 t) (hn : lookB q p t = none) (v : Int) :
    ∃ w', (Instr.mapUpdate 100 (.map (some M)) (.agg (toldA p t)) (.int .i64 v)).run Try.prog w = .ok () w' ∧ KnowAt w' M (q ++ [((p, t), v)]) ∧ Only M w w' := by
  obtain ⟨lx, hx⟩ := keyOfTold hp ht
  obtain ⟨w', h1, h2, h3⟩ := h.map.put_new toldKeyed underlyingTI hx (fun y hy e => by
    obtain ⟨x, hxq, rfl⟩ := List.mem_map.1 hy
    obtain ⟨e1, e2⟩ := toldA_inj (h.ok x hxq).1.len hp.len e
    exact look_none hn x hxq (Prod.ext e1 e2)) (.int .i64 v)
  refine ⟨w', h1, ⟨by unfold knowV; rw [List.map_append]; exact h2, fun x hxq => ?_⟩, h3⟩
  rcases List.mem_append.1 hxq with h' | h'
  · exact h.ok x h'
  · simp only [List.mem_singleton] at h'; subst h'; exact ⟨hp, ht⟩

/-! Old blocks but one are as they were. -/
structure ChgB (cb : Nat) (w w' : World) : Prop where
  os : w'.os = w.os
  tape : w'.tape = w.tape
  output : w'.output = w.output
  size : w.heap.size ≤ w'.heap.size
  block : ∀ k, k < w.heap.size → k ≠ cb → w'.heap[k]? = w.heap[k]?
theorem ChgB.refl (cb : Nat) (w : World) : ChgB cb w w := ⟨rfl, rfl, rfl, Nat.le_refl _, fun _ _ _ => rfl⟩
theorem ChgB.trans {cb : Nat} {a b c : World} (h : ChgB cb a b) (k : ChgB cb b c) : ChgB cb a c :=
  ⟨k.os.trans h.os, k.tape.trans h.tape, k.output.trans h.output, Nat.le_trans h.size k.size, fun i hi hne => (k.block i (Nat.lt_of_lt_of_le hi h.size) hne).trans (h.block i hi hne)⟩
theorem ChgB.of_below {cb : Nat} {a b : World} (h : Below a.heap.size a b) : ChgB cb a b := ⟨h.os, h.tape, h.output, h.size, fun k hk _ => h.block k hk⟩
theorem ChgB.below {cb : Nat} {a b c : World} (h : ChgB cb a b) (k : Below b.heap.size b c) : ChgB cb a c := h.trans (ChgB.of_below k)
theorem ChgB.to_below {cb n₀ : Nat} {a b : World} (h : ChgB cb a b) (h1 : n₀ ≤ cb) (h2 : n₀ ≤ a.heap.size) : Below n₀ a b := ⟨h.os, h.tape, h.output, h.size, fun k hk => h.block k (by omega) (by omega)⟩
theorem ChgB.only {cb : Nat} {a b c : World} {g : Nat} (h : ChgB cb a b) (k : Only g b c) (hg : a.heap.size ≤ g ∨ g = cb) : ChgB cb a c :=
  ⟨k.os.trans h.os, k.tape.trans h.tape, k.output.trans h.output, by rw [k.size]; exact h.size, fun i hi hne => (k.block i (by rcases hg with hg | hg <;> omega)).trans (h.block i hi hne)⟩
theorem ChgB.sl {cb : Nat} {w w' : World} {B k n : Nat} {A : Option Addr} {f : Nat → Nat → Value} (h : Sl w B k A n f) (hc : ChgB cb w w') (hB : B ≤ w.heap.size) (hn : B ≤ cb) : Sl w' B k A n f := h.below (hc.to_below hn hB)

/-! Lies in memory. -/
def lieC (x : LieD) (A : Option Addr) (c : Nat) : Nat → Value
  | 0 => .int .i64 x.frame
  | 1 => .slice A x.path.length c
  | 2 => .int .i64 x.to
  | _ => .int .i64 x.value
structure LiesAt (w : World) (B : Nat) (A : Option Addr) (l : List LieD) : Prop where
  sl : ∃ (P : Nat → Option Addr) (c : Nat → Nat), Sl w B 4 A l.length (fun i => lieC (lieAt l i) (P i) (c i)) ∧ ∀ i, i < l.length → IntsAt w B (P i) (lieAt l i).path
  ok : ∀ i, i < l.length → wf64 (lieAt l i).to
theorem LiesAt.below {w w' : World} {B : Nat} {A : Option Addr} {l : List LieD} (h : LiesAt w B A l) (hb : Below B w w') : LiesAt w' B A l :=
  ⟨by obtain ⟨P, c, h1, h2⟩ := h.sl; exact ⟨P, c, h1.below hb, fun i hi => (h2 i hi).below hb⟩, h.ok⟩
theorem LiesAt.mono {w : World} {B B' : Nat} {A : Option Addr} {l : List LieD} (h : LiesAt w B A l) (hb : B ≤ B') : LiesAt w B' A l :=
  ⟨by obtain ⟨P, c, h1, h2⟩ := h.sl; exact ⟨P, c, h1.mono hb, fun i hi => (h2 i hi).mono hb⟩, h.ok⟩
theorem LiesAt.len {w : World} {B : Nat} {A : Option Addr} {l : List LieD} (h : LiesAt w B A l) : l.length ≤ 9223372036854775807 := by obtain ⟨_, _, h1, _⟩ := h.sl; exact h1.1
end Go.Proofs.Ytnmccbjdfdbgpaa
/- What is proved: a contract of council.learn. Conditions: the council and the lies lie in memory; the council is valid. -/
namespace Go.Proofs.Ytnmccbjdfdbgpaa
open Go.RowKit Go.Maps Go.WideMaps BigFrame

/-- A council's cells. -/
def counA (N F : Int) (A : Option Addr) (n c : Nat) (M : Value) : Array Value := #[.int .i64 N, .int .i64 F, .slice A n c, M]
def LearnPost (w : World) (cb : Nat) (N F : Int) (A : Option Addr) (n c : Nat) (q : Know) (w' : World) : Prop :=
  ChgB cb w w' ∧ ∃ M, w.heap.size ≤ M ∧ Bk w' cb 102 (counA N F A n c (.map (some M))) ∧ KnowAt w' M q
theorem normP_len (N : Int) (p : List Int) : (normP N p).length = p.length := by unfold normP; simp
theorem normP_ok {N : Int} {p : List Int} (hp : p.length ≤ 3) (hN : N ≤ 7) : PathOk (normP N p) := by
  refine ⟨by rw [normP_len]; exact hp, fun i hi => ?_⟩
  have hm : getI (normP N p) i ∈ normP N p := by
    unfold getI; rw [List.getD_eq_getElem?_getD, List.getElem?_eq_getElem hi]; exact List.getElem_mem hi
  unfold normP at hm
  obtain ⟨x, _, e⟩ := List.mem_map.1 hm
  unfold normP
  rw [← e]
  unfold normI
  split
  · rename_i h; have := inB_iff.1 h; omega
  · omega
theorem normP_take {N : Int} {p : List Int} {j : Nat} (hj : j < p.length) : normP N (p.take (j + 1)) = normP N (p.take j) ++ [normI N (getI p j)] := by
  unfold normP
  rw [List.take_add_one, List.getElem?_eq_getElem hj, List.map_append]
  have : getI p j = p[j] := by unfold getI; rw [List.getD_eq_getElem?_getD, List.getElem?_eq_getElem hj]; rfl
  rw [this]; rfl
theorem learnS_some {N F fr v : Int} {q : Know} {x : LieD} (h : hearsB F fr x = true) (hl : lookB q (normP N x.path) x.to = some v) : learnS N F fr q x = q := by
  unfold learnS; rw [if_pos h]; simp only [hl]
theorem learnS_none {N F fr : Int} {q : Know} {x : LieD} (h : hearsB F fr x = true) (hl : lookB q (normP N x.path) x.to = none) : learnS N F fr q x = q ++ [((normP N x.path, x.to), x.value)] := by
  unfold learnS; rw [if_pos h]; simp only [hl]
structure LrnS (w : World) (cb M : Nat) (N F : Int) (A : Option Addr) (n c : Nat) (q : Know) (wr : World) : Prop where
  chg : ChgB cb w wr
  mge : w.heap.size ≤ M
  con : Bk wr cb 102 (counA N F A n c (.map (some M)))
  kno : KnowAt wr M q
theorem LrnS.below {w : World} {cb M : Nat} {N F : Int} {A : Option Addr} {n c : Nat} {q : Know} {wr w' : World} (h : LrnS w cb M N F A n c q wr) (hb : Below wr.heap.size wr w') : LrnS w cb M N F A n c q w' :=
  ⟨h.chg.below hb, h.mge, h.con.below hb h.con.lt, h.kno.below hb h.kno.lt⟩
theorem LrnS.only {w : World} {cb M g : Nat} {N F : Int} {A : Option Addr} {n c : Nat} {q : Know} {wr w' : World} (h : LrnS w cb M N F A n c q wr) (hb : Only g wr w') (h1 : w.heap.size ≤ g) (h2 : g ≠ cb) (h3 : g ≠ M) : LrnS w cb M N F A n c q w' :=
  ⟨h.chg.only hb (Or.inl h1), h.mge, h.con.only hb (Ne.symm h2), h.kno.keep (hb.block M (Ne.symm h3))⟩
set_option maxRecDepth 100000 in
set_option maxHeartbeats 16000000 in
theorem learn_any (w : World) (cb B : Nat) (N F frame : Int) (Af : Option Addr) (nf cf : Nat) (M0 : Value) (A : Option Addr) (c : Nat) (l : List LieD) (hc : Bk w cb 102 (counA N F Af nf cf M0)) (hN1 : 1 ≤ N) (hN2 : N ≤ 7) (hF1 : 0 ≤ F) (hF2 : F ≤ 2)
    (h : LiesAt w B A l) (hB : B ≤ cb) :
    Calls Try.prog 57 #[.pointer (some ⟨cb, 0, none⟩), .slice A l.length c, .int .i64 frame] w fun e w' => e = .returned (.tuple #[]) ∧ LearnPost w cb N F Af nf cf (learnB N F frame l) w' := by
  have HL := Lib.hid h
  have HC := Lib.hid hc
  have hll := h.len
  have hcb := hc.lt
  obtain ⟨n, hn⟩ : ∃ n, l.length = n := ⟨_, rfl⟩
  have HN := Lib.hid hn
  obtain ⟨mb, hmb⟩ : ∃ mb, w.heap.size = mb := ⟨_, rfl⟩
  have HMB := Lib.hid hmb
  obtain ⟨W0, hW0⟩ : ∃ W0, (w.alloc (.map #[] 0)).setCell ⟨cb, 3, none⟩ (.map (some mb)) = W0 := ⟨_, rfl⟩
  have hS0 : LrnS w cb mb N F Af nf cf [] W0 := by
    have hk : Bk (w.alloc (.map #[] 0)) cb 102 (counA N F Af nf cf M0) := hc.alloc _
    have hm : KnowAt (w.alloc (.map #[] 0)) mb [] := by rw [← hmb]; exact KnowAt.made w
    have ho : Only cb (w.alloc (.map #[] 0)) W0 := by rw [← hW0]; exact Only.setCell _ _ _ _
    refine ⟨(ChgB.of_below ((Below.refl _ _).alloc (Nat.le_refl _) _)).only ho (Or.inr rfl), by omega, by rw [← hW0]; exact hk.set 3 _, hm.keep (ho.block mb (by omega))⟩
  have HS0 := Lib.hid hS0
  obtain ⟨R, hR⟩ : ∃ R, learnB N F frame l = R := ⟨_, rfl⟩
  have HR : Hid (learnK N F frame l n = R) := Lib.hid (by rw [← hR, ← hn]; rfl)
  have HFIN : Hid (∀ (e : Ending) (w' : World), e = .returned (.tuple #[]) → LrnS w cb mb N F Af nf cf R w' → e = .returned (.tuple #[]) ∧ LearnPost w cb N F Af nf cf R w') := Lib.hid fun e w' h1 h2 => ⟨h1, h2.chg, mb, h2.mge, h2.con, h2.kno⟩
  rw [hn] at hll ⊢
  rw [hR]
  have c3 : (w.alloc (.map #[] 0)).cell? ⟨cb, 3, none⟩ = some M0 := (hc.alloc _).cell 3
  have cf3 := (hc.alloc (.map #[] 0)).free
  have hmm := @run_makeMap Try.prog
  clear h hn hR hS0 hc
  go_enter Try.func57, Try.ntmps57
  go_wp2_with fail
  clear hW0 hmm c3 cf3
  go_loopw [19] (fun i wr => ∃ k : Nat, k ≤ n ∧ i = .int .i64 k ∧ Hid (LrnS w cb mb N F Af nf cf (learnK N F frame l k) wr)) (fun i _ => n - (intOf i).toNat)
  case atStart => exact ⟨0, Nat.zero_le _, rfl, HS0.out⟩
  case round =>
    obtain ⟨k, hk, rfl, hs⟩ := hrel
    by_cases hlt : k < n
    · have hki : (k : Int) < (n : Int) := by omega
      have h0k : (0 : Int) ≤ (k : Int) := by omega
      obtain ⟨P, cc, hsl, hpa⟩ := HL.out.sl
      have hkl : k < l.length := by rw [HN.out]; exact hlt
      obtain ⟨bb, off, rfl, _, d0, d1, d2, d3⟩ := Sl.at4 (ChgB.sl hsl hs.out.chg (by omega) hB) hkl
      have HPA := Lib.hid (ChgB.sl (hpa k hkl) hs.out.chg (by omega) hB)
      have hto := HL.out.ok k hkl
      have HNX : Hid (learnK N F frame l (k + 1) = learnS N F frame (learnK N F frame l k) (lieAt l k)) := Lib.hid rfl
      have HON := Lib.hid (learnK_once (N := N) (F := F) (frame := frame) (l := l) k)
      obtain ⟨Ap, hAp⟩ : ∃ Ap, P k = Ap := ⟨_, rfl⟩
      obtain ⟨cp, hcp⟩ : ∃ cp, cc k = cp := ⟨_, rfl⟩
      obtain ⟨⟨fr, pa, to, va⟩, hx⟩ : ∃ x, lieAt l k = x := ⟨_, rfl⟩
      obtain ⟨q, hq⟩ : ∃ q, learnK N F frame l k = q := ⟨_, rfl⟩
      rw [hx] at HNX HPA d0 d1 d2 d3 hto
      rw [hq] at HNX HON hs
      rw [hAp] at HPA d1
      rw [hcp] at d1
      simp only [lieC] at d0 d1 d2 d3 hto HPA
      clear hsl hpa hx hq hAp hcp
      have HTO := Lib.hid hto
      obtain ⟨m, hm⟩ : ∃ m, pa.length = m := ⟨_, rfl⟩
      have HM := Lib.hid hm
      have hml := HPA.out.1
      rw [hm] at d1 hml
      obtain ⟨W3, hW3⟩ : ∃ W3, wr.alloc (.cells #[.int .i64 fr, .slice Ap m cp, .int .i64 to, .int .i64 va] 86) = W3 := ⟨_, rfl⟩
      have hb3 : Below wr.heap.size wr W3 := by rw [← hW3]; exact (Below.refl _ _).alloc (Nat.le_refl _) _
      have HX3 : Hid (Bk W3 wr.heap.size 86 #[.int .i64 fr, .slice Ap m cp, .int .i64 to, .int .i64 va]) := Lib.hid (by rw [← hW3]; exact Bk.new _ _ _)
      have HS3 := Lib.hid (hs.out.below hb3)
      have HPA3 := Lib.hid (Sl.below HPA.out (hb3.mono (by have := hs.out.chg.size; omega)))
      obtain ⟨xb, hxb⟩ : ∃ xb, wr.heap.size = xb := ⟨_, rfl⟩
      have HXB : Hid (w.heap.size ≤ xb ∧ xb ≠ cb ∧ xb ≠ mb) := Lib.hid (by
        have h1 := hs.out.chg.size; have h2 := hs.out.con.lt; have h3 := hs.out.kno.lt
        omega)
      rw [hxb] at HX3
      have e0 : W3.cell? ⟨xb, 0, none⟩ = some (.int .i64 fr) := HX3.out.cell 0
      have e1 : W3.cell? ⟨xb, 1, none⟩ = some (.slice Ap m cp) := HX3.out.cell 1
      have f1 : W3.cell? ⟨cb, 1, none⟩ = some (.int .i64 F) := HS3.out.con.cell 1
      clear hto hm
      go_upto_region 4 with (fail)
      clear hW3 d0 d1 d2 d3
      have HSK : Hid (∀ w', Below W3.heap.size W3 w' → learnS N F frame q ⟨fr, pa, to, va⟩ = q → ∃ k' : Nat, k' ≤ n ∧ Value.int .i64 ((k : Int) + 1) = .int .i64 k' ∧ Hid (LrnS w cb mb N F Af nf cf (learnK N F frame l k') w')) := Lib.hid fun w' hb he =>
        ⟨k + 1, by omega, by go_num, Lib.hid (by rw [HNX.out, he]; exact HS3.out.below hb)⟩
      by_cases hf : fr = frame
      case neg =>
        have HQ : Hid (learnS N F frame q ⟨fr, pa, to, va⟩ = q) := Lib.hid (by
          unfold learnS hearsB
          rw [if_neg]
          simp [hf])
        have hf1 : (fr != frame) = true := by simp [hf]
        have hf2 : (fr == frame) = false := by simp [hf]
        go_quiet (fail)
        go_wp2_with fail
        go_roundw
        case rel => exact HSK.out _ (below_drewN (Below.refl _ _) _) HQ.out
        case measure => simp [intOf]; omega
      case pos =>
        subst hf
        obtain ⟨b, hb⟩ : ∃ b, inB (m : Int) 1 (F + 1) = b := ⟨_, rfl⟩
        have HIN : Hid (inB (m : Int) 1 (F + 1) = b) := Lib.hid hb
        have HIW : Hid (∀ w', Calls Try.prog 41 #[.int .i64 m, .int .i64 1, .int .i64 (F + 1)] w' fun e w'' => e = .returned (.bool b) ∧ w' = w'') := Lib.hid fun w' => by rw [← hb]; exact within_any _ _ _ w'
        clear hb
        go_quiet ((go_at_call 41; exact (HIW.out _).mono fun e w' h => ⟨h.1, _, h.2.symm⟩))
        cases b with
        | false =>
          have HQ : Hid (learnS N F fr q ⟨fr, pa, to, va⟩ = q) := Lib.hid (by
            unfold learnS hearsB
            rw [if_neg]
            simp [HM.out, HIN.out])
          go_wp2_with fail
          go_roundw
          case rel => exact HSK.out _ (below_drewN (Below.refl _ _) _) HQ.out
          case measure => simp [intOf]; omega
        | true =>
          have hin := inB_iff.1 HIN.out
          have HHE : Hid (hearsB F fr ⟨fr, pa, to, va⟩ = true) := Lib.hid (by
            unfold hearsB
            simp [HM.out, HIN.out])
          obtain ⟨W4, hW4⟩ : ∃ W4, (W3.drewN nq).alloc (.cells #[.int .i8 0, .int .i8 0, .int .i8 0, .int .i64 0] 131) = W4 := ⟨_, rfl⟩
          have hb4 : Below W3.heap.size W3 W4 := by rw [← hW4]; exact (below_drewN (Below.refl _ _) nq).alloc (Nat.le_refl _) _
          obtain ⟨pb, hpb⟩ : ∃ pb, W3.heap.size = pb := ⟨_, rfl⟩
          have HP4 : Hid (Bk W4 pb 131 (pathA (normP N (pa.take 0)))) := Lib.hid (by rw [← hW4, ← hpb]; exact Bk.new _ _ _)
          have HS4 := Lib.hid (HS3.out.below hb4)
          have HX4 := Lib.hid (HX3.out.below hb4 HX3.out.lt)
          have HPA4 := Lib.hid (Sl.below HPA3.out (hb4.mono (by have := HS3.out.chg.size; omega)))
          have HPB : Hid (w.heap.size ≤ pb ∧ pb ≠ cb ∧ pb ≠ mb ∧ pb ≠ xb) := Lib.hid (by
            have h1 := HS3.out.chg.size; have h2 := HS3.out.con.lt; have h3 := HS3.out.kno.lt; have h4 := HX3.out.lt
            omega)
          have e14 : W4.cell? ⟨xb, 1, none⟩ = some (.slice Ap m cp) := HX4.out.cell 1
          have hbw : w.heap.size ≤ W4.heap.size := HS4.out.chg.size
          go_wp2_with fail
          clear hW4 e0 e1 f1 e14
          go_loopw [43] (fun i wi => ∃ j : Nat, j ≤ m ∧ i = .int .i64 j ∧ Hid (LrnS w cb mb N F Af nf cf q wi ∧ Bk wi xb 86 #[.int .i64 fr, .slice Ap m cp, .int .i64 to, .int .i64 va] ∧ Bk wi pb 131 (pathA (normP N (pa.take j))) ∧ IntsAt wi B Ap pa)) (fun i _ => m - (intOf i).toNat)
          case atStart => exact ⟨0, Nat.zero_le _, rfl, Lib.hid ⟨HS4.out, HX4.out, HP4.out, HPA4.out⟩⟩
          case round =>
            clear hs
            obtain ⟨j, hj, rfl, hs⟩ := hrel
            by_cases hlj : j < m
            · have hji : (j : Int) < (m : Int) := by omega
              have h0j : (0 : Int) ≤ (j : Int) := by omega
              have hjp : j < pa.length := by rw [HM.out]; exact hlj
              obtain ⟨b2, o2, rfl, _, dd⟩ := Sl.at1 hs.out.2.2.2 hjp
              have HNP := Lib.hid (normP_take (N := N) hjp)
              obtain ⟨y, hy⟩ : ∃ y, getI pa j = y := ⟨_, rfl⟩
              try dsimp only at dd
              rw [hy] at dd HNP
              have f0 : wr.cell? ⟨cb, 0, none⟩ = some (.int .i64 N) := hs.out.1.con.cell 0
              obtain ⟨qp, hqp⟩ : ∃ qp, normP N (pa.take j) = qp := ⟨_, rfl⟩
              have hql : qp.length = j := by rw [← hqp, normP_len, List.length_take]; omega
              have HPK : Hid (Bk wr pb 131 (pathA qp)) := Lib.hid (by rw [← hqp]; exact hs.out.2.2.1)
              rw [hqp] at HNP
              have p0 : wr.cell? ⟨pb, 0, none⟩ = some (.int .i8 (getI qp 0)) := HPK.out.cell 0
              have p1 : wr.cell? ⟨pb, 1, none⟩ = some (.int .i8 (getI qp 1)) := HPK.out.cell 1
              have p2 : wr.cell? ⟨pb, 2, none⟩ = some (.int .i8 (getI qp 2)) := HPK.out.cell 2
              have p3 : wr.cell? ⟨pb, 3, none⟩ = some (.int .i64 qp.length) := HPK.out.cell 3
              have HQL := Lib.hid hql
              have hjm : j < 3 := by omega
              clear hqp hql hy
              obtain ⟨b, hb⟩ : ∃ b, inB y 0 (N - 1) = b := ⟨_, rfl⟩
              have HIY := Lib.hid hb
              have HEND : Hid (∀ (i : Int) (w5 : World) (g0 g1 g2 gl : Int), pathA (qp ++ [i]) = #[.int .i8 g0, .int .i8 g1, .int .i8 g2, .int .i64 gl] → normI N y = i → Below wr.heap.size wr w5 →
                  ∃ j' : Nat, j' ≤ m ∧ Value.int .i64 ((j : Int) + 1) = .int .i64 j' ∧ Hid (LrnS w cb mb N F Af nf cf q ((((w5.setCell ⟨pb, 0, none⟩ (.int .i8 g0)).setCell ⟨pb, 1, none⟩ (.int .i8 g1)).setCell ⟨pb, 2, none⟩ (.int .i8 g2)).setCell ⟨pb, 3, none⟩ (.int .i64 gl)) ∧ Bk ((((w5.setCell ⟨pb, 0, none⟩ (.int .i8 g0)).setCell ⟨pb, 1, none⟩ (.int .i8 g1)).setCell ⟨pb, 2, none⟩ (.int .i8 g2)).setCell ⟨pb, 3, none⟩ (.int .i64 gl)) xb 86 #[.int .i64 fr, .slice (some ⟨b2, o2, none⟩) m cp, .int .i64 to, .int .i64 va] ∧ Bk ((((w5.setCell ⟨pb, 0, none⟩ (.int .i8 g0)).setCell ⟨pb, 1, none⟩ (.int .i8 g1)).setCell ⟨pb, 2, none⟩ (.int .i8 g2)).setCell ⟨pb, 3, none⟩ (.int .i64 gl)) pb 131 (pathA (normP N (pa.take j'))) ∧ IntsAt ((((w5.setCell ⟨pb, 0, none⟩ (.int .i8 g0)).setCell ⟨pb, 1, none⟩ (.int .i8 g1)).setCell ⟨pb, 2, none⟩ (.int .i8 g2)).setCell ⟨pb, 3, none⟩ (.int .i64 gl)) B (some ⟨b2, o2, none⟩) pa)) := Lib.hid fun i w5 g0 g1 g2 gl h1 h2 hb5 => by
                have hk5 := HPK.out.below hb5 HPK.out.lt
                have ho : Only pb w5 ((((w5.setCell ⟨pb, 0, none⟩ (.int .i8 g0)).setCell ⟨pb, 1, none⟩ (.int .i8 g1)).setCell ⟨pb, 2, none⟩ (.int .i8 g2)).setCell ⟨pb, 3, none⟩ (.int .i64 gl)) :=
                  (((Only.setCell _ _ _ _).trans (Only.setCell _ _ _ _)).trans (Only.setCell _ _ _ _)).trans (Only.setCell _ _ _ _)
                refine ⟨j + 1, by omega, by go_num, Lib.hid ⟨(hs.out.1.below hb5).only ho HPB.out.1 HPB.out.2.1 HPB.out.2.2.1, (hs.out.2.1.below hb5 hs.out.2.1.lt).only ho (Ne.symm HPB.out.2.2.2), ?_, ?_⟩⟩
                · rw [HNP.out, h2, h1]
                  exact (((hk5.set 0 (.int .i8 g0)).set 1 (.int .i8 g1)).set 2 (.int .i8 g2)).set 3 (.int .i64 gl)
                · exact (Sl.below hs.out.2.2.2 (hb5.mono (by have := hs.out.1.chg.size; omega))).below (ho.below (by have := HPB.out.1; omega))
              have HFR : Hid (∀ w5, Below wr.heap.size wr w5 → Bk w5 pb 131 (pathA qp)) := Lib.hid fun w5 h => HPK.out.below h HPK.out.lt
              go_wp2_with fail
              refine (within_any _ _ _ _).mono ?_
              rintro e w' ⟨rfl, rfl⟩
              rw [hb]
              cases b with
              | true =>
                have hin2 := inB_iff.1 HIY.out
                go_wp2_with fail
                refine (behind_any _ qp y (by rw [HQL.out]; exact hjm) (by omega) (by omega)).mono ?_
                rintro e w5 ⟨rfl, hb5⟩
                have HB5 := Lib.hid hb5
                have hk5 := HFR.out w5 hb5
                have r0 : w5.cell? ⟨pb, 0, none⟩ = some (.int .i8 (getI qp 0)) := hk5.cell 0
                have r1 : w5.cell? ⟨pb, 1, none⟩ = some (.int .i8 (getI qp 1)) := hk5.cell 1
                have r2 : w5.cell? ⟨pb, 2, none⟩ = some (.int .i8 (getI qp 2)) := hk5.cell 2
                have r3 : w5.cell? ⟨pb, 3, none⟩ = some (.int .i64 qp.length) := hk5.cell 3
                have rf := hk5.free
                clear hb5 hk5 p0 p1 p2 p3
                obtain ⟨g0, g1, g2, gl, hpe⟩ : ∃ g0 g1 g2 gl : Int, pathA (qp ++ [y]) = #[.int .i8 g0, .int .i8 g1, .int .i8 g2, .int .i64 gl] := ⟨_, _, _, _, rfl⟩
                have HPE := Lib.hid hpe
                rw [hpe]
                clear hpe
                go_wp2_with fail
                go_roundw
                case rel => first | exact HEND.out y w5 g0 g1 g2 gl HPE.out (by unfold normI; rw [if_pos HIY.out]) HB5.out | ((repeat apply Exists.intro); exact ⟨HEND.out y w5 g0 g1 g2 gl HPE.out (by unfold normI; rw [if_pos HIY.out]) HB5.out, rfl⟩)
                case measure => simp [intOf]; omega
              | false =>
                go_wp2_with fail
                refine (behind_any _ qp (-1) (by rw [HQL.out]; exact hjm) (by omega) (by omega)).mono ?_
                rintro e w5 ⟨rfl, hb5⟩
                have HB5 := Lib.hid hb5
                have hk5 := HFR.out w5 hb5
                have r0 : w5.cell? ⟨pb, 0, none⟩ = some (.int .i8 (getI qp 0)) := hk5.cell 0
                have r1 : w5.cell? ⟨pb, 1, none⟩ = some (.int .i8 (getI qp 1)) := hk5.cell 1
                have r2 : w5.cell? ⟨pb, 2, none⟩ = some (.int .i8 (getI qp 2)) := hk5.cell 2
                have r3 : w5.cell? ⟨pb, 3, none⟩ = some (.int .i64 qp.length) := hk5.cell 3
                have rf := hk5.free
                clear hb5 hk5 p0 p1 p2 p3
                obtain ⟨g0, g1, g2, gl, hpe⟩ : ∃ g0 g1 g2 gl : Int, pathA (qp ++ [(-1)]) = #[.int .i8 g0, .int .i8 g1, .int .i8 g2, .int .i64 gl] := ⟨_, _, _, _, rfl⟩
                have HPE := Lib.hid hpe
                rw [hpe]
                clear hpe
                go_wp2_with fail
                go_roundw
                case rel => first | exact HEND.out (-1) w5 g0 g1 g2 gl HPE.out (by unfold normI; rw [HIY.out]; rfl) HB5.out | ((repeat apply Exists.intro); exact ⟨HEND.out (-1) w5 g0 g1 g2 gl HPE.out (by unfold normI; rw [HIY.out]; rfl) HB5.out, rfl⟩)
                case measure => simp [intOf]; omega
            · obtain rfl : j = m := by omega
              have f3 : wr.cell? ⟨cb, 3, none⟩ = some (.map (some mb)) := hs.out.1.con.cell 3
              have e2 : wr.cell? ⟨xb, 2, none⟩ = some (.int .i64 to) := hs.out.2.1.cell 2
              have e3 : wr.cell? ⟨xb, 3, none⟩ = some (.int .i64 va) := hs.out.2.1.cell 3
              obtain ⟨qp, hqp⟩ : ∃ qp, normP N pa = qp := ⟨_, rfl⟩
              have hql : qp.length = j := by rw [← hqp, normP_len, HM.out]
              have HPK : Hid (Bk wr pb 131 (pathA qp)) := Lib.hid (by
                have := hs.out.2.2.1
                rw [← HM.out, List.take_length, hqp] at this; exact this)
              have HPO : Hid (PathOk qp) := Lib.hid (by rw [← hqp]; exact normP_ok (by rw [HM.out]; omega) hN2)
              have HL1 : Hid (∀ v, lookB q qp to = some v → learnS N F fr q ⟨fr, pa, to, va⟩ = q) := Lib.hid fun v hv => learnS_some HHE.out (by rw [← hqp] at hv; exact hv)
              have HL2 : Hid (lookB q qp to = none → learnS N F fr q ⟨fr, pa, to, va⟩ = q ++ [((qp, to), va)]) := Lib.hid fun hv => by
                rw [← hqp] at hv ⊢; exact learnS_none HHE.out hv
              obtain ⟨g0, g1, g2, gl, hpe⟩ : ∃ g0 g1 g2 gl : Int, pathA qp = #[.int .i8 g0, .int .i8 g1, .int .i8 g2, .int .i64 gl] := ⟨_, _, _, _, rfl⟩
              have HTE : Hid (toldA qp to = #[.int .i8 g0, .int .i8 g1, .int .i8 g2, .int .i64 gl, .int .i64 to]) := Lib.hid (by
                unfold pathA at hpe
                simp only [Array.mk.injEq, List.cons.injEq, Value.int.injEq, true_and, and_true] at hpe
                obtain ⟨h0, h1, h2, h3⟩ := hpe
                unfold toldA
                rw [h0, h1, h2, h3])
              have HPE := Lib.hid hpe
              have p0 : wr.cell? ⟨pb, 0, none⟩ = some (.int .i8 g0) := by rw [HPK.out.cell, hpe]; rfl
              have p1 : wr.cell? ⟨pb, 1, none⟩ = some (.int .i8 g1) := by rw [HPK.out.cell, hpe]; rfl
              have p2 : wr.cell? ⟨pb, 2, none⟩ = some (.int .i8 g2) := by rw [HPK.out.cell, hpe]; rfl
              have p3 : wr.cell? ⟨pb, 3, none⟩ = some (.int .i64 gl) := by rw [HPK.out.cell, hpe]; rfl
              obtain ⟨o, ho⟩ : ∃ o, lookB q qp to = o := ⟨_, rfl⟩
              have HO := Lib.hid ho
              have hlk : ∀ r, (Instr.lookup 100 (.map (some mb)) (.agg #[.int .i8 g0, .int .i8 g1, .int .i8 g2, .int .i64 gl, .int .i64 to]) true).run Try.prog (wr.drewN r) = .ok (.tuple #[.int .i64 (o.getD 0), .bool o.isSome]) (wr.drewN r) := fun r => by
                have := (KnowAt.keep hs.out.1.kno rfl : KnowAt (wr.drewN r) mb q).look2 HON.out HPO.out HTO.out true
                rw [HTE.out, ho] at this; exact this
              clear hqp hql hpe ho
              cases o with
              | some v =>
                go_wp2_with fail
                go_quiet (fail)
                go_wp2_with fail
                go_roundw
                case rel => exact ⟨k + 1, by omega, by go_num, Lib.hid (by rw [HNX.out, HL1.out v HO.out]; exact hs.out.1.below (below_drewN (Below.refl _ _) _))⟩
                case measure => simp [intOf]; omega
              | none =>
                go_wp2_with fail
                go_quiet (fail)
                go_wp2_with fail
                clear hlk
                have x0 := Ext.cell (W := wr.drewN nq) (b := pb) (o := 0) p0
                have x1 := Ext.cell (W := wr.drewN nq) (b := pb) (o := 1) p1
                have x2 := Ext.cell (W := wr.drewN nq) (b := pb) (o := 2) p2
                have x3 := Ext.cell (W := wr.drewN nq) (b := pb) (o := 3) p3
                have y3 := Ext.cell (W := wr.drewN nq) (b := cb) (o := 3) f3
                have y2 := Ext.cell (W := wr.drewN nq) (b := xb) (o := 2) e2
                have z3 := Ext.cell (W := wr.drewN nq) (b := xb) (o := 3) e3
                have HENDM : Hid (∀ w1, Below (wr.drewN nq).heap.size (wr.drewN nq) w1 → ∃ w2, (Instr.mapUpdate 100 (.map (some mb)) (.agg #[.int .i8 g0, .int .i8 g1, .int .i8 g2, .int .i64 gl, .int .i64 to]) (.int .i64 va)).run Try.prog w1 = .ok () w2 ∧ LrnS w cb mb N F Af nf cf (q ++ [((qp, to), va)]) w2) := Lib.hid fun w1 hb1 => by
                  have h1 := hs.out.1.below ((below_drewN (Below.refl _ wr) nq).trans hb1)
                  obtain ⟨w2, r1, r2, r3⟩ := h1.kno.put HPO.out HTO.out HO.out va
                  rw [HTE.out] at r1
                  refine ⟨w2, r1, h1.chg.only r3 (Or.inl h1.mge), h1.mge, h1.con.only r3 (fun e => ?_), r2⟩
                  have h2 := h1.con
                  obtain ⟨arr, clock, h3, _⟩ := h1.kno.map.obj
                  rw [e] at h2
                  have h2' : w1.heap[mb]? = _ := h2
                  rw [h3] at h2'; cases h2'
                refine wp_region_fin 10 _ rfl rfl (by kernel_rfl) (by kernel_rfl) (by kernel_rfl) (fun w2 => LrnS w cb mb N F Af nf cf (q ++ [((qp, to), va)]) w2) ?_
                simp only [List.take_succ_cons, List.take_zero]
                repeat (go_big_quiet_step (fail))
                refine wpQuiet_nil ⟨?_, ?_⟩
                · intro w1 hb1 K hK
                  obtain ⟨w2, r1, r2⟩ := HENDM.out w1 hb1
                  have hK2 := hK w2 r2
                  clear hK
                  simp [Oper.wp, execOp, Act.eval, r1, Oper.upon, Result.andThen]
                  exact hK2
                · intro w2 hw2
                  go_wp2_with fail
                  go_roundw
                  case rel => exact ⟨k + 1, by omega, by go_num, Lib.hid (by rw [HNX.out, HL2.out HO.out]; exact hw2)⟩
                  case measure => simp [intOf]; omega
    · obtain rfl : k = n := by omega
      go_wp2_with fail
      go_end0
      exact HFIN.out _ _ rfl (by rw [← HR.out]; exact hs.out)
end Go.Proofs.Ytnmccbjdfdbgpaa
/- What is proved: a contract of council.heard. Conditions: the council and what it knows lie in memory. -/
namespace Go.Proofs.Ytnmccbjdfdbgpaa
open Go.RowKit Go.Maps Go.WideMaps

/-- What one hears for a path, the last member first. -/
def hearP (q : Know) (fl : List Int) (value : Int) : List Int → Int → Int
  | [], _ => value
  | j :: r, i => if hasB fl j = true then (lookB q (j :: r).reverse i).getD 0 else hearP q fl value r j
def MemOk (l : List Int) : Prop := ∀ x, x ∈ l → 0 ≤ x ∧ x ≤ 6
theorem getI_mem {l : List Int} {k : Nat} (h : k < l.length) : getI l k ∈ l := by
  unfold getI; rw [List.getD_eq_getElem?_getD, List.getElem?_eq_getElem h]; exact List.getElem_mem h
theorem MemOk.path {l : List Int} (h : MemOk l) (hl : l.length ≤ 3) : PathOk l := ⟨hl, fun i hi => by have := h _ (getI_mem hi); omega⟩
set_option maxRecDepth 100000 in
set_option maxHeartbeats 16000000 in
theorem heard_any (w : World) (N F : Int) (Af : Option Addr) (cf M : Nat) (fl : List Int) (q : Know) (p : List Int) (value i : Int) (hf : IntsAt w w.heap.size Af fl) (hq : KnowAt w M q) (ho : Once q) (hp : p.length ≤ 3) (hm : MemOk p) (hi1 : 0 ≤ i) (hi2 : i ≤ 6) :
    Calls Try.prog 78 #[.agg (counA N F Af fl.length cf (.map (some M))), .agg (pathA p), .int .i64 value, .int .i64 i] w fun e w' => e = .returned (.int .i64 (hearP q fl value p.reverse i)) ∧ Below w.heap.size w w' := by
  obtain ⟨W1, hW1⟩ : ∃ W1, (w.alloc (.cells (counA N F Af fl.length cf (.map (some M))) 102)).alloc (.cells (pathA p) 131) = W1 := ⟨_, rfl⟩
  have hb1 : Below w.heap.size w W1 := by rw [← hW1]; exact ((Below.refl _ _).alloc (Nat.le_refl _) _).alloc (by simp) _
  have HB1 := Lib.hid hb1
  obtain ⟨kb, hkb⟩ : ∃ kb, w.heap.size = kb := ⟨_, rfl⟩
  have HC1 : Hid (Bk W1 kb 102 (counA N F Af fl.length cf (.map (some M)))) := Lib.hid (by rw [← hW1, ← hkb]; exact (Bk.new _ _ _).alloc _)
  have HP1 : Hid (Bk W1 (kb + 1) 131 (pathA p)) := Lib.hid (by
    have := Bk.new (w.alloc (.cells (counA N F Af fl.length cf (.map (some M))) 102)) 131 (pathA p)
    rw [World.size_alloc, hW1, hkb] at this; exact this)
  have HF := Lib.hid hf
  have HQ := Lib.hid hq
  have HO := Lib.hid ho
  obtain ⟨R, hR⟩ : ∃ R, hearP q fl value p.reverse i = R := ⟨_, rfl⟩
  have HR := Lib.hid hR
  have HFIN : Hid (∀ (e : Ending) (w' : World), e = .returned (.int .i64 R) → Below w.heap.size w w' → e = .returned (.int .i64 R) ∧ Below w.heap.size w w') := Lib.hid fun _ _ a b => ⟨a, b⟩
  obtain ⟨n, hn⟩ : ∃ n, fl.length = n := ⟨_, rfl⟩
  have HN := Lib.hid hn
  obtain ⟨g0, g1, g2, gl, hpe⟩ : ∃ g0 g1 g2 gl : Int, pathA p = #[.int .i8 g0, .int .i8 g1, .int .i8 g2, .int .i64 gl] := ⟨_, _, _, _, rfl⟩
  have HPE := Lib.hid hpe
  have HMO := Lib.hid hm
  have HPL := Lib.hid hp
  rw [hn] at HC1 hW1 ⊢
  rw [hR]
  rw [hpe] at hW1 ⊢
  unfold counA at hW1 ⊢
  clear hf hq ho hR hn hpe hm hp hb1
  go_enter Try.func78, Try.ntmps78
  go_wp2_with fail
  try rw [hkb]
  go_loopw [3] (fun iv wr => ∃ (r : List Int) (j : Int), iv = .int .i64 j ∧ r.length ≤ 3 ∧ 0 ≤ j ∧ j ≤ 6 ∧ Hid (hearP q fl value r j = R ∧ MemOk r ∧ Below w.heap.size w wr ∧ Bk wr kb 102 (counA N F Af n cf (.map (some M))) ∧ Bk wr (kb + 1) 131 (pathA r.reverse))) (fun _ wr => ((wr.cell? ⟨kb + 1, 3, none⟩).map fun v => (intOf v).toNat).getD 0)
  case atStart => exact ⟨p.reverse, i, rfl, by rw [List.length_reverse]; exact HPL.out, hi1, hi2, Lib.hid ⟨HR.out, fun x hx => HMO.out x (List.mem_reverse.1 hx), (by first | exact HB1.out | (rw [hW1]; exact HB1.out)), (by first | exact HC1.out | (rw [hW1]; exact HC1.out)), by rw [List.reverse_reverse]; first | exact HP1.out | (rw [hW1]; exact HP1.out)⟩⟩
  case round =>
    clear hW1
    obtain ⟨r, j, rfl, hrl, hj1, hj2, hs⟩ := hrel
    have hsz : w.heap.size ≤ wr.heap.size := hs.out.2.2.1.size
    have hk1 : kb + 1 < wr.heap.size := hs.out.2.2.2.2.lt
    have c0 : wr.cell? ⟨kb, 0, none⟩ = some (.int .i64 N) := hs.out.2.2.2.1.cell 0
    have c1 : wr.cell? ⟨kb, 1, none⟩ = some (.int .i64 F) := hs.out.2.2.2.1.cell 1
    have c2 : wr.cell? ⟨kb, 2, none⟩ = some (.slice Af n cf) := hs.out.2.2.2.1.cell 2
    have c3 : wr.cell? ⟨kb, 3, none⟩ = some (.map (some M)) := hs.out.2.2.2.1.cell 3
    have HFA : Hid (∀ x, Calls Try.prog 65 #[.agg #[.int .i64 N, .int .i64 F, .slice Af n cf, .map (some M)], .int .i64 x] wr fun e w' => e = .returned (.bool (hasB fl x)) ∧ Below wr.heap.size wr w') := Lib.hid fun x => by
      rw [← HN.out]; exact faulty_any wr N F x Af cf fl _ (Sl.mono (Sl.below HF.out hs.out.2.2.1) hsz)
    have HST : Hid (∀ w5, Below wr.heap.size wr w5 → Below w.heap.size w w5 ∧ Bk w5 kb 102 (counA N F Af n cf (.map (some M))) ∧ Bk w5 (kb + 1) 131 (pathA r.reverse) ∧ KnowAt w5 M q) := Lib.hid fun w5 hb => 
      ⟨hs.out.2.2.1.trans (hb.mono hsz), hs.out.2.2.2.1.below hb (by omega), hs.out.2.2.2.2.below hb hk1, (HQ.out.below hs.out.2.2.1 HQ.out.lt).below hb (by have := HQ.out.lt; omega)⟩
    match r, hrl with
    | [], _ =>
      have p3 : wr.cell? ⟨kb + 1, 3, none⟩ = some (.int .i64 0) := hs.out.2.2.2.2.cell 3
      go_wp2_with fail
      go_ret
      exact HFIN.out _ _ (by rw [← hs.out.1]; rfl) hs.out.2.2.1
    | [x0], _ =>
      have p0 : wr.cell? ⟨kb + 1, 0, none⟩ = some (.int .i8 x0) := hs.out.2.2.2.2.cell 0
      have p1 : wr.cell? ⟨kb + 1, 1, none⟩ = some (.int .i8 0) := hs.out.2.2.2.2.cell 1
      have p2 : wr.cell? ⟨kb + 1, 2, none⟩ = some (.int .i8 0) := hs.out.2.2.2.2.cell 2
      have p3 : wr.cell? ⟨kb + 1, 3, none⟩ = some (.int .i64 1) := hs.out.2.2.2.2.cell 3
      have hxm := hs.out.2.1 x0 (List.mem_cons_self ..)
      have hx1 := hxm.1
      have hx2 := hxm.2
      have HMO2 : Hid (MemOk []) := Lib.hid fun x hx => hs.out.2.1 x (List.mem_cons_of_mem _ hx)
      clear hxm
      go_wp2_with fail
      refine (HFA.out x0).mono ?_
      rintro e w5 ⟨rfl, hb5⟩
      obtain ⟨k1, k2, k3, k4⟩ := HST.out w5 hb5
      have HK1 := Lib.hid k1
      have HK2 := Lib.hid k2
      have HK3 := Lib.hid k3
      have HK4 := Lib.hid k4
      have q0 : w5.cell? ⟨kb + 1, 0, none⟩ = some (.int .i8 x0) := k3.cell 0
      have q1 : w5.cell? ⟨kb + 1, 1, none⟩ = some (.int .i8 0) := k3.cell 1
      have q2 : w5.cell? ⟨kb + 1, 2, none⟩ = some (.int .i8 0) := k3.cell 2
      have q3 : w5.cell? ⟨kb + 1, 3, none⟩ = some (.int .i64 1) := k3.cell 3
      have d3 : w5.cell? ⟨kb, 3, none⟩ = some (.map (some M)) := k2.cell 3
      have qf := k3.free
      clear hb5 k1 k2 k3 k4 c0 c1 c2 c3 p0 p1 p2 p3
      cases hh : hasB fl x0 with
      | true =>
        have HV : Hid ((lookB q [x0] j).getD 0 = R) := Lib.hid (by rw [← hs.out.1]; unfold hearP; rw [if_pos hh]; rfl)
        have hlk : (Instr.lookup 100 (.map (some M)) (.agg #[.int .i8 x0, .int .i8 0, .int .i8 0, .int .i64 1, .int .i64 j]) false).run Try.prog w5 = .ok (.int .i64 R) w5 := by
          have := HK4.out.look2 HO.out (p := [x0]) (t := j) (MemOk.path (fun x hx => hs.out.2.1 x (List.mem_reverse.1 hx)) (by simp)) (wf64_of (by omega) (by omega)) false
          rw [HV.out] at this; exact this
        clear hh
        go_wp2_with fail
        go_ret
        exact HFIN.out _ _ rfl HK1.out
      | false =>
        have HV : Hid (hearP q fl value [] x0 = R) := Lib.hid (by rw [← hs.out.1]; conv => rhs; unfold hearP; rw [if_neg (by rw [hh]; decide)])
        clear hh
        go_wp2_with fail
        go_roundw
        case rel => exact ⟨[], x0, rfl, by simp, hx1, hx2, Lib.hid ⟨HV.out, HMO2.out, (HK1.out.setCell (p := ⟨kb + 1, 0, none⟩) (by show w.heap.size ≤ kb + 1; omega) _).setCell (p := ⟨kb + 1, 3, none⟩) (by show w.heap.size ≤ kb + 1; omega) _, (HK2.out.far (p := ⟨kb + 1, 0, none⟩) (by show kb ≠ kb + 1; omega) _).far (p := ⟨kb + 1, 3, none⟩) (by show kb ≠ kb + 1; omega) _, (HK3.out.set 0 (.int .i8 0)).set 3 (.int .i64 0)⟩⟩
        case measure =>
          have m1 := ((HK3.out.set 0 (.int .i8 0)).set 3 (.int .i64 0)).cell 3
          have m2 := hs.out.2.2.2.2.cell 3
          rw [m1, m2]
          exact (by decide : (0 : Nat) < 1)
    | [x1, x0], _ =>
      have p0 : wr.cell? ⟨kb + 1, 0, none⟩ = some (.int .i8 x0) := hs.out.2.2.2.2.cell 0
      have p1 : wr.cell? ⟨kb + 1, 1, none⟩ = some (.int .i8 x1) := hs.out.2.2.2.2.cell 1
      have p2 : wr.cell? ⟨kb + 1, 2, none⟩ = some (.int .i8 0) := hs.out.2.2.2.2.cell 2
      have p3 : wr.cell? ⟨kb + 1, 3, none⟩ = some (.int .i64 2) := hs.out.2.2.2.2.cell 3
      have hxm := hs.out.2.1 x1 (List.mem_cons_self ..)
      have hx1 := hxm.1
      have hx2 := hxm.2
      have HMO2 : Hid (MemOk [x0]) := Lib.hid fun x hx => hs.out.2.1 x (List.mem_cons_of_mem _ hx)
      clear hxm
      go_wp2_with fail
      refine (HFA.out x1).mono ?_
      rintro e w5 ⟨rfl, hb5⟩
      obtain ⟨k1, k2, k3, k4⟩ := HST.out w5 hb5
      have HK1 := Lib.hid k1
      have HK2 := Lib.hid k2
      have HK3 := Lib.hid k3
      have HK4 := Lib.hid k4
      have q0 : w5.cell? ⟨kb + 1, 0, none⟩ = some (.int .i8 x0) := k3.cell 0
      have q1 : w5.cell? ⟨kb + 1, 1, none⟩ = some (.int .i8 x1) := k3.cell 1
      have q2 : w5.cell? ⟨kb + 1, 2, none⟩ = some (.int .i8 0) := k3.cell 2
      have q3 : w5.cell? ⟨kb + 1, 3, none⟩ = some (.int .i64 2) := k3.cell 3
      have d3 : w5.cell? ⟨kb, 3, none⟩ = some (.map (some M)) := k2.cell 3
      have qf := k3.free
      clear hb5 k1 k2 k3 k4 c0 c1 c2 c3 p0 p1 p2 p3
      cases hh : hasB fl x1 with
      | true =>
        have HV : Hid ((lookB q [x0, x1] j).getD 0 = R) := Lib.hid (by rw [← hs.out.1]; unfold hearP; rw [if_pos hh]; rfl)
        have hlk : (Instr.lookup 100 (.map (some M)) (.agg #[.int .i8 x0, .int .i8 x1, .int .i8 0, .int .i64 2, .int .i64 j]) false).run Try.prog w5 = .ok (.int .i64 R) w5 := by
          have := HK4.out.look2 HO.out (p := [x0, x1]) (t := j) (MemOk.path (fun x hx => hs.out.2.1 x (List.mem_reverse.1 hx)) (by simp)) (wf64_of (by omega) (by omega)) false
          rw [HV.out] at this; exact this
        clear hh
        go_wp2_with fail
        go_ret
        exact HFIN.out _ _ rfl HK1.out
      | false =>
        have HV : Hid (hearP q fl value [x0] x1 = R) := Lib.hid (by rw [← hs.out.1]; conv => rhs; unfold hearP; rw [if_neg (by rw [hh]; decide)])
        clear hh
        go_wp2_with fail
        go_roundw
        case rel => exact ⟨[x0], x1, rfl, by simp, hx1, hx2, Lib.hid ⟨HV.out, HMO2.out, (HK1.out.setCell (p := ⟨kb + 1, 1, none⟩) (by show w.heap.size ≤ kb + 1; omega) _).setCell (p := ⟨kb + 1, 3, none⟩) (by show w.heap.size ≤ kb + 1; omega) _, (HK2.out.far (p := ⟨kb + 1, 1, none⟩) (by show kb ≠ kb + 1; omega) _).far (p := ⟨kb + 1, 3, none⟩) (by show kb ≠ kb + 1; omega) _, (HK3.out.set 1 (.int .i8 0)).set 3 (.int .i64 1)⟩⟩
        case measure =>
          have m1 := ((HK3.out.set 1 (.int .i8 0)).set 3 (.int .i64 1)).cell 3
          have m2 := hs.out.2.2.2.2.cell 3
          rw [m1, m2]
          exact (by decide : (1 : Nat) < 2)
    | [x2, x1, x0], _ =>
      have p0 : wr.cell? ⟨kb + 1, 0, none⟩ = some (.int .i8 x0) := hs.out.2.2.2.2.cell 0
      have p1 : wr.cell? ⟨kb + 1, 1, none⟩ = some (.int .i8 x1) := hs.out.2.2.2.2.cell 1
      have p2 : wr.cell? ⟨kb + 1, 2, none⟩ = some (.int .i8 x2) := hs.out.2.2.2.2.cell 2
      have p3 : wr.cell? ⟨kb + 1, 3, none⟩ = some (.int .i64 3) := hs.out.2.2.2.2.cell 3
      have hxm := hs.out.2.1 x2 (List.mem_cons_self ..)
      have hx1 := hxm.1
      have hx2 := hxm.2
      have HMO2 : Hid (MemOk [x1, x0]) := Lib.hid fun x hx => hs.out.2.1 x (List.mem_cons_of_mem _ hx)
      clear hxm
      go_wp2_with fail
      refine (HFA.out x2).mono ?_
      rintro e w5 ⟨rfl, hb5⟩
      obtain ⟨k1, k2, k3, k4⟩ := HST.out w5 hb5
      have HK1 := Lib.hid k1
      have HK2 := Lib.hid k2
      have HK3 := Lib.hid k3
      have HK4 := Lib.hid k4
      have q0 : w5.cell? ⟨kb + 1, 0, none⟩ = some (.int .i8 x0) := k3.cell 0
      have q1 : w5.cell? ⟨kb + 1, 1, none⟩ = some (.int .i8 x1) := k3.cell 1
      have q2 : w5.cell? ⟨kb + 1, 2, none⟩ = some (.int .i8 x2) := k3.cell 2
      have q3 : w5.cell? ⟨kb + 1, 3, none⟩ = some (.int .i64 3) := k3.cell 3
      have d3 : w5.cell? ⟨kb, 3, none⟩ = some (.map (some M)) := k2.cell 3
      have qf := k3.free
      clear hb5 k1 k2 k3 k4 c0 c1 c2 c3 p0 p1 p2 p3
      cases hh : hasB fl x2 with
      | true =>
        have HV : Hid ((lookB q [x0, x1, x2] j).getD 0 = R) := Lib.hid (by rw [← hs.out.1]; unfold hearP; rw [if_pos hh]; rfl)
        have hlk : (Instr.lookup 100 (.map (some M)) (.agg #[.int .i8 x0, .int .i8 x1, .int .i8 x2, .int .i64 3, .int .i64 j]) false).run Try.prog w5 = .ok (.int .i64 R) w5 := by
          have := HK4.out.look2 HO.out (p := [x0, x1, x2]) (t := j) (MemOk.path (fun x hx => hs.out.2.1 x (List.mem_reverse.1 hx)) (by simp)) (wf64_of (by omega) (by omega)) false
          rw [HV.out] at this; exact this
        clear hh
        go_wp2_with fail
        go_ret
        exact HFIN.out _ _ rfl HK1.out
      | false =>
        have HV : Hid (hearP q fl value [x1, x0] x2 = R) := Lib.hid (by rw [← hs.out.1]; conv => rhs; unfold hearP; rw [if_neg (by rw [hh]; decide)])
        clear hh
        go_wp2_with fail
        go_roundw
        case rel => exact ⟨[x1, x0], x2, rfl, by simp, hx1, hx2, Lib.hid ⟨HV.out, HMO2.out, (HK1.out.setCell (p := ⟨kb + 1, 2, none⟩) (by show w.heap.size ≤ kb + 1; omega) _).setCell (p := ⟨kb + 1, 3, none⟩) (by show w.heap.size ≤ kb + 1; omega) _, (HK2.out.far (p := ⟨kb + 1, 2, none⟩) (by show kb ≠ kb + 1; omega) _).far (p := ⟨kb + 1, 3, none⟩) (by show kb ≠ kb + 1; omega) _, (HK3.out.set 2 (.int .i8 0)).set 3 (.int .i64 2)⟩⟩
        case measure =>
          have m1 := ((HK3.out.set 2 (.int .i8 0)).set 3 (.int .i64 2)).cell 3
          have m2 := hs.out.2.2.2.2.cell 3
          rw [m1, m2]
          exact (by decide : (2 : Nat) < 3)
    | _ :: _ :: _ :: _ :: _, h => simp only [List.length_cons] at h; omega
end Go.Proofs.Ytnmccbjdfdbgpaa
