/- What is proved: the texts Bo, one behind the other; each says at its head what it proves, and under which conditions. -/
import Derived.Test.Ytnmccbjdfdbgpaan12
/- What is proved: AvionicsServes returns true, and makes only memory. Conditions: the messages and the lists lie in memory. -/
namespace Go.Proofs.Ytnmccbjdfdbgpaa
open Go.RowKit

theorem ServPost.dec {w : World} {l : List MsgD} {T : List Int} {e : Ending} {w' : World} {b : Bool} (h : ServPost w l T e w') (hb : b = true ↔ servQ l T) : e = .returned (.bool b) ∧ Below w.heap.size w w' := by
  obtain ⟨b', h1, h2, h3⟩ := h
  have : b' = b := by
    cases b' <;> cases b <;> simp_all
  rw [this] at h1
  exact ⟨h1, h3⟩
theorem servQ_dec (l : List MsgD) (T : List Int) : ∃ b : Bool, b = true ↔ servQ l T := by
  by_cases h : servQ l T
  · exact ⟨true, by simp [h]⟩
  · exact ⟨false, by simp [h]⟩
/-- Two neighbours that change places; which of the two stores are done. -/
def SwpJ (w : World) (tg : Nat) (T : List Int) (k : Nat) (d1 d2 : Bool) (w1 : World) : Prop :=
  w.heap.size ≤ tg ∧ k + 1 < T.length ∧ Below w.heap.size w w1 ∧ ∃ T', T'.length = T.length ∧ CurI w1 tg T' ∧ getI T' k = (if d1 then getI T (k + 1) else getI T k) ∧ getI T' (k + 1) = (if d2 then getI T k else getI T (k + 1))
section
variable {w w1 : World} {tg k : Nat} {T : List Int} {d1 d2 : Bool}
theorem SwpJ.drew (h : SwpJ w tg T k d1 d2 w1) : SwpJ w tg T k d1 d2 w1.drew := by
  obtain ⟨h0, h1, h2, T', h3, h4, h5⟩ := h
  exact ⟨h0, h1, below_drewN h2 1, T', h3, h4.below (below_drewN (Below.refl _ _) 1), h5⟩
theorem SwpJ.cell0 (h : SwpJ w tg T k d1 d2 w1) (hd : d1 = false) : w1.cell? ⟨tg, k, none⟩ = some (.int .i64 (getI T k)) := by
  obtain ⟨h0, h1, h2, T', h3, h4, h5, h6⟩ := h
  rw [h4.cell (by omega), h5, hd]; rfl
theorem SwpJ.cell1 (h : SwpJ w tg T k d1 d2 w1) (hd : d2 = false) : w1.cell? ⟨tg, k + 1, none⟩ = some (.int .i64 (getI T (k + 1))) := by
  obtain ⟨h0, h1, h2, T', h3, h4, h5, h6⟩ := h
  rw [h4.cell (by omega), h6, hd]; rfl
theorem SwpJ.any0 (h : SwpJ w tg T k d1 d2 w1) : ∃ y, w1.cell? ⟨tg, k, none⟩ = some (.int .i64 y) ∧ w1.frozen? ⟨tg, k, none⟩ = false := by
  obtain ⟨h0, h1, h2, T', h3, h4, h5, h6⟩ := h
  exact ⟨_, h4.cell (by omega), h4.free _⟩
theorem SwpJ.any1 (h : SwpJ w tg T k d1 d2 w1) : ∃ y, w1.cell? ⟨tg, k + 1, none⟩ = some (.int .i64 y) ∧ w1.frozen? ⟨tg, k + 1, none⟩ = false := by
  obtain ⟨h0, h1, h2, T', h3, h4, h5, h6⟩ := h
  exact ⟨_, h4.cell (by omega), h4.free _⟩
theorem SwpJ.set0 (h : SwpJ w tg T k d1 d2 w1) : SwpJ w tg T k true d2 (w1.setCell ⟨tg, k, none⟩ (.int .i64 (getI T (k + 1)))) := by
  obtain ⟨h0, h1, h2, T', h3, h4, h5, h6⟩ := h
  refine ⟨h0, h1, h2.setCell (p := ⟨tg, k, none⟩) h0 _, _, by rw [List.length_set, h3], h4.set (by omega) _, ?_, ?_⟩
  · rw [getI_set (by omega), if_pos rfl]; rfl
  · rw [getI_set (by omega), if_neg (by omega)]; exact h6
theorem SwpJ.set1 (h : SwpJ w tg T k d1 d2 w1) : SwpJ w tg T k d1 true (w1.setCell ⟨tg, k + 1, none⟩ (.int .i64 (getI T k))) := by
  obtain ⟨h0, h1, h2, T', h3, h4, h5, h6⟩ := h
  refine ⟨h0, h1, h2.setCell (p := ⟨tg, k + 1, none⟩) h0 _, _, by rw [List.length_set, h3], h4.set (by omega) _, ?_, ?_⟩
  · rw [getI_set (by omega), if_neg (by omega)]; exact h5
  · rw [getI_set (by omega), if_pos rfl]; rfl
end
set_option maxRecDepth 100000 in
set_option maxHeartbeats 16000000 in
theorem servesLaw_any (w : World) (Am : Option Addr) (c : Nat) (l : List MsgD) (h : MsgsAt w w.heap.size Am l) (At : Option Addr) (ct : Nat) (tb : List Int) (ht : IntsAt w w.heap.size At tb) (_hw1 : ∀ n ∈ tb, Wd n)
    (Au : Option Addr) (cu : Nat) (tu : List Int) (hu : IntsAt w w.heap.size Au tu) (_hw2 : ∀ n ∈ tu, Wd n) :
    Calls Try.prog 13 #[.slice Am l.length c, .slice At tb.length ct, .slice Au tu.length cu] w fun e w' => e = .returned (.bool true) ∧ Below w.heap.size w w' := by
  clear _hw1 _hw2
  have HU := Lib.hid hu
  have hll := h.1
  have hlt := ht.1
  have hlu := hu.1
  have HSC := Lib.hid (schedule_any w Am c l h)
  have HTR : Hid (∀ a b, Below w.heap.size w a → Below a.heap.size a b → Below w.heap.size w b) := Lib.hid fun _ _ h1 h2 => h1.trans (h2.mono h1.size)
  have HFIN : Hid (∀ (e : Ending) (w' : World), e = .returned (.bool true) → Below w.heap.size w w' → e = .returned (.bool true) ∧ Below w.heap.size w w') := Lib.hid fun _ _ a b => ⟨a, b⟩
  have HRS := Lib.hid fun (w1 : World) (hb : Below w.heap.size w w1) (A' : Option Addr) (c' : Nat) (T : List Int) (h' : IntsAt w1 w1.heap.size A' T) (b : Bool) (hs : b = true ↔ servQ l T) => (refServes_any w1 Am c l (Sl.mono (Sl.below h hb) hb.size) A' c' T h').mono fun e w' hp => hp.dec hs
  have HPS := Lib.hid fun (w1 : World) (hb : Below w.heap.size w w1) (A' : Option Addr) (c' : Nat) (T : List Int) (h' : IntsAt w1 w1.heap.size A' T) (b : Bool) (hs : b = true ↔ servQ l T) => (serves_any w1 Am c l (Sl.mono (Sl.below h hb) hb.size) A' c' T h').mono fun e w' hp => hp.dec hs
  have HTB := Lib.hid fun (w1 : World) (hb : Below w.heap.size w w1) => (Sl.mono (Sl.below ht hb) hb.size : IntsAt w1 w1.heap.size At tb)
  obtain ⟨b0, hb0⟩ := servQ_dec l tb
  have HB0 := Lib.hid hb0
  have HRS0 := Lib.hid fun w1 hb => HRS.out w1 hb At ct tb (HTB.out w1 hb) b0 HB0.out
  have HPS0 := Lib.hid fun w1 hb => HPS.out w1 hb At ct tb (HTB.out w1 hb) b0 HB0.out
  obtain ⟨n, hn⟩ : ∃ n, l.length = n := ⟨_, rfl⟩
  obtain ⟨nb, hnb⟩ : ∃ nb, tb.length = nb := ⟨_, rfl⟩
  obtain ⟨nu, hnu⟩ : ∃ nu, tu.length = nu := ⟨_, rfl⟩
  have HNU := Lib.hid hnu
  obtain ⟨Q1, hQ1⟩ : ∃ Q, SchPost w l = Q := ⟨_, rfl⟩
  have HQ1 : Hid (∀ e w', Q1 e w' → SchPost w l e w') := Lib.hid fun e w' hq => by rw [hQ1]; exact hq
  rw [hQ1] at HSC
  rw [hn] at hll HSC HRS HPS HRS0 HPS0 ⊢
  rw [hnb] at hlt HRS0 HPS0 ⊢
  rw [hnu] at hlu ⊢
  clear h ht hu hn hnb hnu hQ1 hb0
  go_enter Try.func13, Try.ntmps13
  by_cases h20 : 20 < n
  · have h20i : (20 : Int) < (n : Int) := by omega
    go_wp2_with fail
    refine (awake_any _).mono ?_
    rintro e w1 ⟨rfl, hb1⟩
    go_wp2_with fail
    go_ret
    exact HFIN.out _ _ rfl hb1
  have h20i : ¬ (20 : Int) < (n : Int) := by omega
  by_cases h11 : 1100 < nb
  · have h11i : (1100 : Int) < (nb : Int) := by omega
    go_wp2_with fail
    refine (awake_any _).mono ?_
    rintro e w1 ⟨rfl, hb1⟩
    go_wp2_with fail
    go_ret
    exact HFIN.out _ _ rfl hb1
  have h11i : ¬ (1100 : Int) < (nb : Int) := by omega
  by_cases h50 : 50 < nu
  · have h50i : (50 : Int) < (nu : Int) := by omega
    go_wp2_with fail
    refine (awake_any _).mono ?_
    rintro e w1 ⟨rfl, hb1⟩
    go_wp2_with fail
    go_ret
    exact HFIN.out _ _ rfl hb1
  have h50i : ¬ (50 : Int) < (nu : Int) := by omega
  go_wp2_with fail
  refine HSC.out.mono ?_
  intro e w1 hp1
  obtain ⟨A1, tc, T, ⟨na, nb2⟩, er, hsc, rfl, hcl1, hb1⟩ := HQ1.out _ _ hp1
  have HB1 := Lib.hid hb1
  have HCL1 := Lib.hid hcl1
  have HSCH := Lib.hid hsc
  dsimp only
  have HER : Hid (b0 = true → er = 0) := Lib.hid fun h => by
    have := serves_sched (HB0.out.1 h)
    rw [hsc] at this; exact this
  obtain ⟨nt, hnt⟩ : ∃ nt, T.length = nt := ⟨_, rfl⟩
  have HNT := Lib.hid hnt
  rw [hnt]
  obtain ⟨W2, hW2⟩ : ∃ W2, w1.alloc (.cells #[.int .i64 na, .int .i64 nb2] 23) = W2 := ⟨_, rfl⟩
  have hb2 : Below w1.heap.size w1 W2 := by rw [← hW2]; exact (Below.refl _ _).alloc (Nat.le_refl _) _
  have HB2 := Lib.hid (HTR.out _ _ HB1.out hb2)
  have HCL2 := Lib.hid (hcl1.below hb2)
  clear hp1 HQ1 HSC hcl1 hb1 hb2 hsc hnt HCL1
  go_upto_region 4 with (fail)
  clear hW2
  go_wp2_with fail
  refine (HPS0.out W2 HB2.out).mono ?_
  rintro e w3 ⟨rfl, hb3⟩
  have HB3 := Lib.hid (HTR.out _ _ HB2.out hb3)
  have HCL3 := Lib.hid (HCL2.out.below hb3)
  clear hb3
  go_wp2_with fail
  refine (HRS0.out w3 HB3.out).mono ?_
  rintro e w4 ⟨rfl, hb4⟩
  have HB4 := Lib.hid (HTR.out _ _ HB3.out hb4)
  have HCL4 := Lib.hid (HCL3.out.below hb4)
  clear hb4
  have HR4 := Lib.hid (HRS0.out w4 HB4.out)
  by_cases he0 : er = 0
  case neg =>
    have hbf : b0 = false := by
      cases b0 with
      | false => rfl
      | true => exact absurd (HER.out rfl) he0
    subst hbf
    go_wp2_with fail
    refine HR4.out.mono ?_
    rintro e w5 ⟨rfl, hb5⟩
    have HB5 := Lib.hid (HTR.out _ _ HB4.out hb5)
    clear hb5
    go_wp2_with fail
    refine (awake_any _).mono ?_
    rintro e w6 ⟨rfl, hb6⟩
    go_wp2_with fail
    go_ret
    exact HFIN.out _ _ rfl (HTR.out _ _ HB5.out hb6)
  subst he0
  have HTG : Hid (1 ≤ nt ∧ nt ≤ 1000 ∧ ∃ tg, A1 = some ⟨tg, 0, none⟩ ∧ w.heap.size ≤ tg ∧ CurI w4 tg T) := Lib.hid (by
    have hsv := sched_serves HSCH.out
    obtain ⟨_, hok⟩ := cycle_ok hsv.1
    have h1 := hok.least
    have h2 := hok.great
    have h3 := hsv.2.1
    obtain ⟨tg, e, hge, hcu⟩ := Cl.curI HCL4.out (by omega)
    exact ⟨by rw [← HNT.out]; omega, by rw [← HNT.out]; omega, tg, e, hge, hcu⟩)
  obtain ⟨hnt1, hnt2, tg, rfl, htg, hcu⟩ := HTG.out
  have HTGW := Lib.hid htg
  have HCU4 := Lib.hid hcu
  clear HTG htg hcu HCL2 HCL3 HCL4 HER
  cases b0
  all_goals
    go_wp2_with fail
    refine HR4.out.mono ?_
    rintro e w5 ⟨rfl, hb5⟩
    have HB5 := Lib.hid (HTR.out _ _ HB4.out hb5)
    have HCU5 := Lib.hid (HCU4.out.below hb5)
    clear hb5 HR4 HPS0 HRS0
    go_wp2_with fail
    go_loopw [10] (fun i wr => ∃ q : Nat, q ≤ nu ∧ i = .int .i64 q ∧ Hid (Below w.heap.size w wr ∧ ∃ T', T'.length = nt ∧ CurI wr tg T')) (fun i _ => nu - (intOf i).toNat)
    case atStart => exact ⟨0, Nat.zero_le _, rfl, Lib.hid ⟨HB5.out, T, HNT.out, HCU5.out⟩⟩
    case round =>
      clear HCU5 HCU4
      obtain ⟨q, hq, rfl, hs⟩ := hrel
      by_cases hgo : q < nu ∧ 1 < nt
      case neg =>
        by_cases hqn : q < nu
        · have hqi : (q : Int) < (nu : Int) := by omega
          have hnti : ¬ (1 : Int) < (nt : Int) := by omega
          go_wp2_with fail
          refine (awake_any _).mono ?_
          rintro e w6 ⟨rfl, hb6⟩
          go_wp2_with fail
          go_ret
          exact HFIN.out _ _ rfl (HTR.out _ _ hs.out.1 hb6)
        · have hqi : ¬ (q : Int) < (nu : Int) := by omega
          go_wp2_with fail
          refine (awake_any _).mono ?_
          rintro e w6 ⟨rfl, hb6⟩
          go_wp2_with fail
          go_ret
          exact HFIN.out _ _ rfl (HTR.out _ _ hs.out.1 hb6)
      obtain ⟨hqn, hn1⟩ := hgo
      have hqi : (q : Int) < (nu : Int) := by omega
      have hnti : (1 : Int) < (nt : Int) := by omega
      have h0q : (0 : Int) ≤ (q : Int) := by omega
      obtain ⟨T1, hT1, hc1⟩ := hs.out.2
      have HT1 := Lib.hid hT1
      have HC1 := Lib.hid hc1
      have HBR := Lib.hid hs.out.1
      clear hT1 hc1 hs
      obtain ⟨bu, ou, rfl, _, d0⟩ := Sl.at1 (Sl.below HU.out HBR.out) (i := q) (by rw [HNU.out]; exact hqn)
      obtain ⟨x, hx⟩ : ∃ x, getI tu q = x := ⟨_, rfl⟩
      try dsimp only at d0
      rw [hx] at d0
      have hm1 : ¬ (nt : Int) - 1 = 0 := by omega
      obtain ⟨x1, hx1⟩ : ∃ x1, x.tmod ((nt : Int) - 1) = x1 := ⟨_, rfl⟩
      have hx2 : -((nt : Int) - 1) < x1 ∧ x1 < (nt : Int) - 1 := by
        rw [← hx1]
        have h5 := Int.tmod_lt_of_pos x (b := (nt : Int) - 1) (by omega)
        have h6 := Int.lt_tmod_of_pos x (b := (nt : Int) - 1) (by omega)
        omega
      obtain ⟨kx, hkx⟩ : ∃ kx : Nat, (x1 + (nt : Int) - 1).tmod ((nt : Int) - 1) = kx := ⟨((x1 + (nt : Int) - 1).tmod ((nt : Int) - 1)).toNat, by
        have := Int.tmod_nonneg ((nt : Int) - 1) (a := x1 + (nt : Int) - 1) (by omega)
        omega⟩
      have hkk2 : kx + 1 < nt := by
        have := Int.tmod_lt_of_pos (x1 + (nt : Int) - 1) (b := (nt : Int) - 1) (by omega)
        omega
      have hk1i : (kx : Int) + 1 < (nt : Int) := by omega
      have hk0i : (kx : Int) < (nt : Int) := by omega
      have hkc : ((kx + 1 : Nat) : Int) < (nt : Int) := by omega
      have h0k : (0 : Int) ≤ (kx : Int) := by omega
      have h0k1 : (0 : Int) ≤ ((kx + 1 : Nat) : Int) := by omega
      obtain ⟨y0, hy0⟩ : ∃ y0, getI T1 kx = y0 := ⟨_, rfl⟩
      obtain ⟨y1, hy1⟩ : ∃ y1, getI T1 (kx + 1) = y1 := ⟨_, rfl⟩
      have HY0 := Lib.hid hy0
      have HY1 := Lib.hid hy1
      have HSJ : Hid (SwpJ w tg T1 kx false false wr) := Lib.hid ⟨HTGW.out, by rw [HT1.out]; exact hkk2, HBR.out, T1, rfl, HC1.out, rfl, rfl⟩
      clear hx hy0 hy1
      go_upto_region 11 with (fail)
      clear d0
      refine wp_region_stepsJ (by kernel_rfl) (by kernel_rfl) (fun dn _ w1 => SwpJ w tg T1 kx (dn 15) (dn 17) w1) (fun _ _ _ => True)
        (fun ix u _ _ => match ix with
          | 0 => u = .slice (some ⟨tg, 0, none⟩) nt tc
          | 1 => u = .int .i64 kx
          | 2 => u = .slice (some ⟨tg, 0, none⟩) nt tc
          | 3 => u = .int .i64 kx
          | 4 => u = .int .i64 (kx + 1 : Nat)
          | 5 => u = .slice (some ⟨tg, 0, none⟩) nt tc
          | 6 => u = .int .i64 kx
          | 7 => u = .int .i64 (kx + 1 : Nat)
          | 8 => u = .pointer (some ⟨tg, kx + 1, none⟩)
          | 9 => u = .int .i64 y1
          | 10 => u = .slice (some ⟨tg, 0, none⟩) nt tc
          | 11 => u = .int .i64 kx
          | 12 => u = .pointer (some ⟨tg, kx, none⟩)
          | 13 => u = .int .i64 y0
          | 14 => u = .pointer (some ⟨tg, kx, none⟩)
          | 15 => True
          | 16 => u = .pointer (some ⟨tg, kx + 1, none⟩)
          | _ => True) (fun _ => HSJ.out.drew) (fun _ _ _ _ _ _ _ _ h _ => h) ?_ ?_
      · refine ⟨?_, ?_, ?_, ?_, ?_, ?_, ?_, ?_, ?_, ?_, ?_, ?_, ?_, ?_, ?_, ?_, ?_, ?_, trivial⟩
        · intro a w1 vs K dn Hd Hb HJ HK HD HN kk
          have e7 := HK 7 (by decide)
          go_simp; exact kk _ _ (by simp) HJ trivial rfl
        · intro a w1 vs K dn Hd Hb HJ HK HD HN kk
          have e11 := HK 11 (by decide)
          go_simp; exact kk _ _ (by simp) HJ trivial rfl
        · intro a w1 vs K dn Hd Hb HJ HK HD HN kk
          have e7 := HK 7 (by decide)
          go_simp; exact kk _ _ (by simp) HJ trivial rfl
        · intro a w1 vs K dn Hd Hb HJ HK HD HN kk
          have e11 := HK 11 (by decide)
          go_simp; exact kk _ _ (by simp) HJ trivial rfl
        · intro a w1 vs K dn Hd Hb HJ HK HD HN kk
          have e80 := (HD 3 _ 80 rfl rfl rfl).1.trans (HD 3 _ 80 rfl rfl rfl).2
          have hws : IntKind.i64.wrap ((kx : Int) + 1) = ((kx + 1 : Nat) : Int) := by rw [IntWalk.i64_in _ (by omega)]; rfl
          go_simp; exact kk _ _ (by simp) HJ trivial (by first | rfl | (show Value.int _ _ = Value.int _ _; rw [hws]))
        · intro a w1 vs K dn Hd Hb HJ HK HD HN kk
          have e7 := HK 7 (by decide)
          go_simp; exact kk _ _ (by simp) HJ trivial rfl
        · intro a w1 vs K dn Hd Hb HJ HK HD HN kk
          have e11 := HK 11 (by decide)
          go_simp; exact kk _ _ (by simp) HJ trivial rfl
        · intro a w1 vs K dn Hd Hb HJ HK HD HN kk
          have e83 := (HD 6 _ 83 rfl rfl rfl).1.trans (HD 6 _ 83 rfl rfl rfl).2
          have hws : IntKind.i64.wrap ((kx : Int) + 1) = ((kx + 1 : Nat) : Int) := by rw [IntWalk.i64_in _ (by omega)]; rfl
          go_simp; exact kk _ _ (by simp) HJ trivial (by first | rfl | (show Value.int _ _ = Value.int _ _; rw [hws]))
        · intro a w1 vs K dn Hd Hb HJ HK HD HN kk
          have e82 := (HD 5 _ 82 rfl rfl rfl).1.trans (HD 5 _ 82 rfl rfl rfl).2
          have e84 := (HD 7 _ 84 rfl rfl rfl).1.trans (HD 7 _ 84 rfl rfl rfl).2
          go_simp; exact kk _ _ (by simp) HJ trivial rfl
        · intro a w1 vs K dn Hd Hb HJ HK HD HN kk
          have e85 := (HD 8 _ 85 rfl rfl rfl).1.trans (HD 8 _ 85 rfl rfl rfl).2
          have d17 : dn 17 = false := by cases hq : dn 17 with | false => rfl | true => exact absurd (Hd 17 hq).2 (by decide)
          have ca := HJ.cell1 d17
          rw [HY1.out] at ca
          go_simp; exact kk _ _ (by simp) HJ trivial rfl
        · intro a w1 vs K dn Hd Hb HJ HK HD HN kk
          have e7 := HK 7 (by decide)
          go_simp; exact kk _ _ (by simp) HJ trivial rfl
        · intro a w1 vs K dn Hd Hb HJ HK HD HN kk
          have e11 := HK 11 (by decide)
          go_simp; exact kk _ _ (by simp) HJ trivial rfl
        · intro a w1 vs K dn Hd Hb HJ HK HD HN kk
          have e87 := (HD 10 _ 87 rfl rfl rfl).1.trans (HD 10 _ 87 rfl rfl rfl).2
          have e88 := (HD 11 _ 88 rfl rfl rfl).1.trans (HD 11 _ 88 rfl rfl rfl).2
          go_simp; exact kk _ _ (by simp) HJ trivial rfl
        · intro a w1 vs K dn Hd Hb HJ HK HD HN kk
          have e89 := (HD 12 _ 89 rfl rfl rfl).1.trans (HD 12 _ 89 rfl rfl rfl).2
          have d15 : dn 15 = false := by cases hq : dn 15 with | false => rfl | true => exact absurd (Hd 15 hq).2 (by decide)
          have ca := HJ.cell0 d15
          rw [HY0.out] at ca
          go_simp; exact kk _ _ (by simp) HJ trivial rfl
        · intro a w1 vs K dn Hd Hb HJ HK HD HN kk
          have e77 := (HD 0 _ 77 rfl rfl rfl).1.trans (HD 0 _ 77 rfl rfl rfl).2
          have e78 := (HD 1 _ 78 rfl rfl rfl).1.trans (HD 1 _ 78 rfl rfl rfl).2
          go_simp; exact kk _ _ (by simp) HJ trivial rfl
        · intro a w1 vs K dn Hd Hb HJ HK HD HN kk
          have e91 := (HD 14 _ 91 rfl rfl rfl).1.trans (HD 14 _ 91 rfl rfl rfl).2
          have e86 := (HD 9 _ 86 rfl rfl rfl).1.trans (HD 9 _ 86 rfl rfl rfl).2
          obtain ⟨y, ca, cf⟩ := HJ.any0
          have hset := HJ.set0
          rw [HY1.out] at hset
          go_simp; exact kk undef _ (by simp) (by simpa [updB] using hset) trivial trivial
        · intro a w1 vs K dn Hd Hb HJ HK HD HN kk
          have e79 := (HD 2 _ 79 rfl rfl rfl).1.trans (HD 2 _ 79 rfl rfl rfl).2
          have e81 := (HD 4 _ 81 rfl rfl rfl).1.trans (HD 4 _ 81 rfl rfl rfl).2
          go_simp; exact kk _ _ (by simp) HJ trivial rfl
        · intro a w1 vs K dn Hd Hb HJ HK HD HN kk
          have e92 := (HD 16 _ 92 rfl rfl rfl).1.trans (HD 16 _ 92 rfl rfl rfl).2
          have e90 := (HD 13 _ 90 rfl rfl rfl).1.trans (HD 13 _ 90 rfl rfl rfl).2
          obtain ⟨y, ca, cf⟩ := HJ.any1
          have hset := HJ.set1
          rw [HY0.out] at hset
          go_simp; exact kk undef _ (by simp) (by simpa [updB] using hset) trivial trivial
      · intro vs dn w6 hdn hj hrr
        rw [hdn 15 (by decide), hdn 17 (by decide)] at hj
        obtain ⟨_, _, hb6, T2, hT2, hc2, _, _⟩ := hj
        have HB6 := Lib.hid hb6
        have HT2 : Hid (T2.length = nt) := Lib.hid (hT2.trans HT1.out)
        have HC2 := Lib.hid hc2
        clear hdn hb6 hT2 hc2 hrr HSJ
        simp only [putAll, Act.put, List.setIfInBounds_toArray, List.set_cons_zero, List.set_cons_succ]
        obtain ⟨b2, hb2⟩ := servQ_dec l T2
        have HP6 := Lib.hid (HPS.out w6 HB6.out (some ⟨tg, 0, none⟩) tc T2 (HC2.out.ints (by rw [HT2.out]; omega)) b2 hb2)
        have HR6 := Lib.hid fun (w7 : World) (hb : Below w6.heap.size w6 w7) => HRS.out w7 (HTR.out _ _ HB6.out hb) (some ⟨tg, 0, none⟩) tc T2 ((HC2.out.below hb).ints (by rw [HT2.out]; omega)) b2 hb2
        rw [HT2.out] at HP6 HR6
        clear hb2
        go_wp2_with fail
        refine HP6.out.mono ?_
        rintro e w7 ⟨rfl, hb7⟩
        have HB7 := Lib.hid hb7
        clear hb7
        go_wp2_with fail
        refine (HR6.out w7 HB7.out).mono ?_
        rintro e w8 ⟨rfl, hb8⟩
        have HB8 := Lib.hid (HB7.out.trans (hb8.mono HB7.out.size))
        clear hb8
        go_wp2_with fail
        go_roundw
        case rel => exact ⟨q + 1, by omega, by go_num, Lib.hid ⟨HTR.out _ _ HB6.out HB8.out, T2, HT2.out, HC2.out.below HB8.out⟩⟩
        case measure => simp [intOf]; omega
end Go.Proofs.Ytnmccbjdfdbgpaa
