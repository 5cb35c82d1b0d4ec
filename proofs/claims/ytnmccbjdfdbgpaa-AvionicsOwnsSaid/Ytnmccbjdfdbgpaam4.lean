/- What is proved: the texts N O T U V W X Y Z Aa Ab Ac Ad, one behind the other; each says at its head what it proves, and under which conditions. -/
import Derived.Test.Ytnmccbjdfdbgpaam3
/- What is proved: a contract of the document's Messages. Conditions: the messages lie in memory. -/
namespace Go.Proofs.Ytnmccbjdfdbgpaa
open Go.RowKit

theorem bytes_beq (a b : ByteArray) : (a.toList == b.toList) = decide (a = b) := by
  by_cases h : a = b
  · subst h; simp
  · simp only [h, decide_false]
    rw [beq_eq_false_iff_ne]
    intro h2
    apply h
    rw [Go.ByteArray.toList_eq, Go.ByteArray.toList_eq] at h2
    cases a; cases b
    simp only at h2
    rw [Array.toList_inj.1 h2]
set_option maxRecDepth 100000 in
set_option maxHeartbeats 16000000 in
theorem messages_any (w : World) (A : Option Addr) (c : Nat) (l : List MsgD) (h : MsgsAt w w.heap.size A l) :
    Calls Try.prog 51 #[.slice A l.length c] w fun e w' => e = .returned (.bool (validB l)) ∧ Below w.heap.size w w' := by
  have HL := Lib.hid h
  have hll := h.1
  obtain ⟨n, hn⟩ : ∃ n, l.length = n := ⟨_, rfl⟩
  have HN := Lib.hid hn
  obtain ⟨R, hR⟩ : ∃ R, validB l = R := ⟨_, rfl⟩
  have HR := Lib.hid hR
  have HFIN : Hid (∀ (e : Ending) (w' : World), e = .returned (.bool R) → Below w.heap.size w w' → e = .returned (.bool R) ∧ Below w.heap.size w w') := Lib.hid fun _ _ a b => ⟨a, b⟩
  rw [hn] at hll ⊢
  rw [hR]
  clear h hn hR
  go_enter Try.func51, Try.ntmps51
  go_wp2_with fail
  go_loopw [3] (fun i wr => ∃ k : Nat, k ≤ n ∧ i = .int .i64 k ∧ Hid (Below w.heap.size w wr ∧ (∀ j, j < k → (okM (msgAt l j) && newM l j) = true))) (fun i _ => n - (intOf i).toNat)
  case atStart => exact ⟨0, Nat.zero_le _, rfl, Lib.hid ⟨Below.refl _ _, fun j hj => absurd hj (Nat.not_lt_zero j)⟩⟩
  case round =>
    obtain ⟨k, hk, rfl, hs⟩ := hrel
    by_cases hlt : k < n
    · have hki : (k : Int) < (n : Int) := by omega
      have h0k : (0 : Int) ≤ (k : Int) := by omega
      have hlt' : k < l.length := by rw [HN.out]; exact hlt
      obtain ⟨b, off, rfl, _, d0, d1, d2, d3⟩ := Sl.at4 (Sl.below HL.out hs.out.1) hlt'
      obtain ⟨⟨nm, sz, per, dd⟩, hr⟩ : ∃ r, l.getD k msg0 = r := ⟨_, rfl⟩
      have hmk : msgAt l k = ⟨nm, sz, per, dd⟩ := hr
      rw [hr] at d0 d1 d2 d3
      simp only [msgC] at d0 d1 d2 d3
      obtain ⟨b1, hb1⟩ : ∃ b, inB nm.size 1 32 = b := ⟨_, rfl⟩
      obtain ⟨b2, hb2⟩ : ∃ b, inB per 1 1000 = b := ⟨_, rfl⟩
      obtain ⟨b3, hb3⟩ : ∃ b, inB dd 1 per = b := ⟨_, rfl⟩
      obtain ⟨b4, hb4⟩ : ∃ b, inB sz 1 dd = b := ⟨_, rfl⟩
      have HOK : Hid (okM (msgAt l k) = (b1 && b2 && b3 && b4)) := Lib.hid (by rw [hmk]; unfold okM; simp only; rw [hb1, hb2, hb3, hb4])
      have HBAD : Hid (okM (msgAt l k) = false → R = false) := Lib.hid fun h => by rw [← HR.out]; exact validB_bad hlt' (by rw [h]; rfl)
      have HI1 : Hid (∀ w', Calls Try.prog 60 #[.int .i64 nm.size, .int .i64 1, .int .i64 32] w' fun e w'' => e = .returned (.bool b1) ∧ w' = w'') := Lib.hid fun w' => by rw [← hb1]; exact in_any _ _ _ w'
      have HI2 : Hid (∀ w', Calls Try.prog 60 #[.int .i64 per, .int .i64 1, .int .i64 1000] w' fun e w'' => e = .returned (.bool b2) ∧ w' = w'') := Lib.hid fun w' => by rw [← hb2]; exact in_any _ _ _ w'
      have HI3 : Hid (∀ w', Calls Try.prog 60 #[.int .i64 dd, .int .i64 1, .int .i64 per] w' fun e w'' => e = .returned (.bool b3) ∧ w' = w'') := Lib.hid fun w' => by rw [← hb3]; exact in_any _ _ _ w'
      have HI4 : Hid (∀ w', Calls Try.prog 60 #[.int .i64 sz, .int .i64 1, .int .i64 dd] w' fun e w'' => e = .returned (.bool b4) ∧ w' = w'') := Lib.hid fun w' => by rw [← hb4]; exact in_any _ _ _ w'
      obtain ⟨w3, hw3⟩ : ∃ w3, wr.alloc (.cells #[.string nm, .int .i64 sz, .int .i64 per, .int .i64 dd] 80) = w3 := ⟨_, rfl⟩
      obtain ⟨mb, hmb⟩ : ∃ mb, wr.heap.size = mb := ⟨_, rfl⟩
      have HB3 : Hid (Below w.heap.size w w3) := Lib.hid (by rw [← hw3]; exact hs.out.1.trans (((Below.refl _ _).alloc (Nat.le_refl _) _).mono hs.out.1.size))
      have HK3 : Hid (Bk w3 mb 80 #[.string nm, .int .i64 sz, .int .i64 per, .int .i64 dd]) := Lib.hid (by rw [← hw3, ← hmb]; exact Bk.new _ _ _)
      have HNM : Hid ((msgAt l k).name = nm) := Lib.hid (by rw [hmk])
      clear hr hmk hb1 hb2 hb3 hb4
      go_upto_region 5 with (fail)
      clear hw3 d0 d1 d2 d3 hmb
      have m0 : w3.cell? ⟨mb, 0, none⟩ = some (.string nm) := HK3.out.cell 0
      have m1 : w3.cell? ⟨mb, 1, none⟩ = some (.int .i64 sz) := HK3.out.cell 1
      have m2 : w3.cell? ⟨mb, 2, none⟩ = some (.int .i64 per) := HK3.out.cell 2
      have m3 : w3.cell? ⟨mb, 3, none⟩ = some (.int .i64 dd) := HK3.out.cell 3
      cases b1 with
      | false =>
        go_wp2_with fail
        refine (HI1.out _).mono ?_
        rintro e w' ⟨rfl, rfl⟩
        go_wp2_with fail
        go_ret
        exact HFIN.out _ _ (by rw [HBAD.out (HOK.out.trans (by simp))]; rfl) HB3.out
      | true =>
        cases b2 with
        | false =>
          go_wp2_with fail
          refine (HI1.out _).mono ?_
          rintro e w' ⟨rfl, rfl⟩
          go_wp2_with fail
          refine (HI2.out _).mono ?_
          rintro e w' ⟨rfl, rfl⟩
          go_wp2_with fail
          go_ret
          exact HFIN.out _ _ (by rw [HBAD.out (HOK.out.trans (by simp))]; rfl) HB3.out
        | true =>
          cases b3 with
          | false =>
            go_wp2_with fail
            refine (HI1.out _).mono ?_
            rintro e w' ⟨rfl, rfl⟩
            go_wp2_with fail
            refine (HI2.out _).mono ?_
            rintro e w' ⟨rfl, rfl⟩
            go_wp2_with fail
            refine (HI3.out _).mono ?_
            rintro e w' ⟨rfl, rfl⟩
            go_wp2_with fail
            go_ret
            exact HFIN.out _ _ (by rw [HBAD.out (HOK.out.trans (by simp))]; rfl) HB3.out
          | true =>
            cases b4 with
            | false =>
              go_wp2_with fail
              refine (HI1.out _).mono ?_
              rintro e w' ⟨rfl, rfl⟩
              go_wp2_with fail
              refine (HI2.out _).mono ?_
              rintro e w' ⟨rfl, rfl⟩
              go_wp2_with fail
              refine (HI3.out _).mono ?_
              rintro e w' ⟨rfl, rfl⟩
              go_wp2_with fail
              refine (HI4.out _).mono ?_
              rintro e w' ⟨rfl, rfl⟩
              go_wp2_with fail
              go_ret
              exact HFIN.out _ _ (by rw [HBAD.out (HOK.out.trans (by simp))]; rfl) HB3.out
            | true =>
              go_wp2_with fail
              refine (HI1.out _).mono ?_
              rintro e w' ⟨rfl, rfl⟩
              go_wp2_with fail
              refine (HI2.out _).mono ?_
              rintro e w' ⟨rfl, rfl⟩
              go_wp2_with fail
              refine (HI3.out _).mono ?_
              rintro e w' ⟨rfl, rfl⟩
              go_wp2_with fail
              refine (HI4.out _).mono ?_
              rintro e w' ⟨rfl, rfl⟩
              go_wp2_with fail
              clear m1 m2 m3 m0
              go_loopw [5] (fun i wr => ∃ q : Nat, q ≤ k ∧ i = .int .i64 q ∧ Hid (Below w3.heap.size w3 wr ∧ (∀ j, j < q → (msgAt l j).name ≠ nm))) (fun i _ => k - (intOf i).toNat)
              case atStart => exact ⟨0, Nat.zero_le _, rfl, Lib.hid ⟨Below.refl _ _, fun j hj => absurd hj (Nat.not_lt_zero j)⟩⟩
              case round =>
                obtain ⟨q, hq, rfl, h2⟩ := hrel
                have HBQ : Hid (∀ w', Below wr.heap.size wr w' → Below w.heap.size w w') := Lib.hid fun w' h => (HB3.out.trans (h2.out.1.mono HB3.out.size)).trans (h.mono (HB3.out.trans (h2.out.1.mono HB3.out.size)).size)
                have HBR : Hid (Below w.heap.size w wr) := Lib.hid (HBQ.out _ (Below.refl _ _))
                by_cases hqk : q < k
                · have hqi : (q : Int) < (k : Int) := by omega
                  have h0q : (0 : Int) ≤ (q : Int) := by omega
                  have hqn : (q : Int) < (n : Int) := by omega
                  have hqt : q < l.length := by rw [HN.out]; omega
                  obtain ⟨b, off, hAe, _, d0, d1, d2, d3⟩ := Sl.at4 (Sl.below HL.out HBR.out) hqt
                  cases hAe
                  obtain ⟨⟨nq, sq, pq, dq⟩, hr⟩ : ∃ r, l.getD q msg0 = r := ⟨_, rfl⟩
                  have hmq : msgAt l q = ⟨nq, sq, pq, dq⟩ := hr
                  rw [hr] at d0 d1 d2 d3
                  simp only [msgC] at d0 d1 d2 d3
                  have m0 : wr.cell? ⟨mb, 0, none⟩ = some (.string nm) := (HK3.out.below h2.out.1 HK3.out.lt).cell 0
                  have HNQ : Hid ((msgAt l q).name = nq) := Lib.hid (by rw [hmq])
                  clear hr hmq d1 d2 d3
                  by_cases he : nq = nm
                  · have HBD : Hid (R = false) := Lib.hid (by
                      rw [← HR.out]
                      refine validB_bad hlt' ?_
                      have : newM l k = false := by
                        cases hn : newM l k with
                        | false => rfl
                        | true =>
                          have := allN_iff.1 hn q hqk
                          rw [HNQ.out, HNM.out, he] at this
                          simp at this
                      rw [this, Bool.and_false])
                    subst he
                    have he1 : (nq.toList == nq.toList) = true := by rw [bytes_beq]; exact decide_eq_true rfl
                    go_wp2_with fail
                    go_quiet (fail)
                    go_wp2_with fail
                    go_ret
                    exact HFIN.out _ _ (by rw [HBD.out]; rfl) (HBQ.out _ (below_drewN (Below.refl _ _) _))
                  · have he1 : (nq.toList == nm.toList) = false := by rw [bytes_beq]; exact decide_eq_false he
                    have HE := Lib.hid he
                    clear he
                    go_wp2_with fail
                    go_quiet (fail)
                    go_wp2_with fail
                    go_roundw
                    case rel => exact ⟨q + 1, by omega, by go_num, Lib.hid ⟨below_drewN h2.out.1 _, fun j hj => by
                      by_cases e : j = q
                      · subst e; rw [HNQ.out]; exact HE.out
                      · exact h2.out.2 j (by omega)⟩⟩
                    case measure => simp [intOf]; omega
                · obtain rfl : q = k := by omega
                  have HNW : Hid (∀ j, j < q + 1 → (okM (msgAt l j) && newM l j) = true) := Lib.hid fun j hj => by
                    by_cases e : j = q
                    · subst e
                      have : newM l j = true := allN_iff.2 fun i hi => by
                        have := h2.out.2 i hi
                        rw [HNM.out]; simpa using this
                      rw [HOK.out, this]; rfl
                    · exact hs.out.2 j (by omega)
                  go_wp2_with fail
                  go_roundw
                  case rel => first | exact ⟨q + 1, by omega, by go_num, Lib.hid ⟨HBR.out, HNW.out⟩⟩ | ((repeat apply Exists.intro); exact ⟨⟨q + 1, by omega, by go_num, Lib.hid ⟨HBR.out, HNW.out⟩⟩, rfl⟩)
                  case measure => simp [intOf]; omega
    · obtain rfl : k = n := by omega
      have HI5 : Hid (∀ w', Calls Try.prog 60 #[.int .i64 k, .int .i64 1, .int .i64 16] w' fun e w'' => e = .returned (.bool R) ∧ w' = w'') := Lib.hid fun w' => by
        have e : R = inB k 1 16 := by
          rw [← HR.out]; unfold validB
          rw [HN.out, allN_iff.2 hs.out.2, Bool.true_and]
        rw [e]; exact in_any _ _ _ w'
      go_wp2_with fail
      refine (HI5.out _).mono ?_
      rintro e w' ⟨rfl, rfl⟩
      go_wp2_with fail
      go_ret
      exact HFIN.out _ _ rfl hs.out.1
end Go.Proofs.Ytnmccbjdfdbgpaa
/- What is proved: a contract of the document's Cycle. Conditions: the messages lie in memory. -/
namespace Go.Proofs.Ytnmccbjdfdbgpaa
open Go.RowKit

theorem divsB_succ (per : Nat → Nat) (n c : Nat) : divsB per (n + 1) c = (divsB per n c && (c % per n == 0)) := by
  unfold divsB; rw [List.range_succ, List.all_append]; simp
set_option maxRecDepth 100000 in
set_option maxHeartbeats 16000000 in
theorem refCycle_any (w : World) (A : Option Addr) (c : Nat) (l : List MsgD) (h : MsgsAt w w.heap.size A l) :
    Calls Try.prog 20 #[.slice A l.length c] w fun e w' => e = .returned (.tuple #[.int .i64 (cycleB l).1, .int .i64 (cycleB l).2]) ∧ Below w.heap.size w w' := by
  have HL := Lib.hid h
  have hll := h.1
  have HV := Lib.hid (messages_any w A c l h)
  obtain ⟨n, hn⟩ : ∃ n, l.length = n := ⟨_, rfl⟩
  have HN := Lib.hid hn
  have HFIN : Hid (∀ (e : Ending) (w' : World), e = .returned (.tuple #[.int .i64 (cycleB l).1, .int .i64 (cycleB l).2]) → Below w.heap.size w w' → e = .returned (.tuple #[.int .i64 (cycleB l).1, .int .i64 (cycleB l).2]) ∧ Below w.heap.size w w') := Lib.hid fun _ _ a b => ⟨a, b⟩
  obtain ⟨vb, hvb⟩ : ∃ b, validB l = b := ⟨_, rfl⟩
  rw [hn, hvb] at HV
  rw [hn] at hll ⊢
  have HCB : Hid (cycleB l = if validB l = false then (0, 2) else if 1000 < cycleN l then (0, 3) else if 256 < cntJ (perN l) (cycleN l) l.length then (0, 3) else ((cycleN l : Int), 0)) := Lib.hid rfl
  obtain ⟨R, hR⟩ : ∃ R, cycleB l = R := ⟨_, rfl⟩
  rw [hR] at HFIN HCB ⊢
  clear h hn hR
  cases vb with
  | false =>
    have HR : Hid (R = (0, 2)) := Lib.hid (by rw [HCB.out, if_pos hvb])
    clear hvb
    go_enter Try.func20, Try.ntmps20
    go_wp2_with fail
    refine HV.out.mono ?_
    rintro e w1 ⟨rfl, hb1⟩
    have HB1 := Lib.hid hb1
    clear hb1
    go_wp2_with fail
    go_ret2
    exact HFIN.out _ _ (by rw [HR.out]; rfl) HB1.out
  | true =>
    rw [if_neg (by rw [hvb]; decide), HN.out] at HCB
    have hn16 := validB_len hvb
    rw [HN.out] at hn16
    have HMS : Hid (∀ k, k < n → ∃ P : Nat, (msgAt l k).per = P ∧ perN l k = P ∧ 1 ≤ P ∧ P ≤ 1000) := Lib.hid fun k hk => by
      have := validB_msg hvb (by rw [HN.out]; exact hk)
      exact ⟨(msgAt l k).per.toNat, by omega, rfl, by omega, by omega⟩
    have HPOS : Hid (∀ i, i < n → 0 < perN l i) := Lib.hid fun i hi => by obtain ⟨P, _, h2, h3, _⟩ := HMS.out i hi; omega
    have HCN : Hid (cycleN l = lcmK (perN l) n) := Lib.hid (by unfold cycleN; rw [HN.out])
    clear hvb
    go_enter Try.func20, Try.ntmps20
    go_wp2_with fail
    refine HV.out.mono ?_
    rintro e w1 ⟨rfl, hb1⟩
    have HB1 := Lib.hid hb1
    clear hb1
    go_wp2_with fail
    go_loopw [4] (fun i wr => ∃ C : Nat, 1 ≤ C ∧ C ≤ 1001 ∧ i = .int .i64 C ∧ Hid (Below w.heap.size w wr ∧ (∀ d, 1 ≤ d → d < C → divsB (perN l) n d = false))) (fun i _ => 1001 - (intOf i).toNat)
    case atStart => exact ⟨1, Nat.le_refl _, by omega, rfl, Lib.hid ⟨HB1.out, fun d h1 h2 => by omega⟩⟩
    case round =>
      obtain ⟨C, hC1, hC2, rfl, hs⟩ := hrel
      by_cases hC3 : C ≤ 1000
      · have hCi : (C : Int) ≤ 1000 := by omega
        have hDV : ∃ b, divsB (perN l) n C = b := ⟨_, rfl⟩
        have HD0 : Hid (divsB (perN l) 0 C = true) := Lib.hid rfl
        go_wp2_with fail
        go_loopw [5, 6, 7] (fun a s i wr => ∃ q : Nat, q ≤ n ∧ a = .bool (divsB (perN l) q C) ∧ s = .int .i64 (cntJ (perN l) C q : Nat) ∧ i = .int .i64 q ∧ Hid (Below w.heap.size w wr)) (fun _ _ i _ => n - (intOf i).toNat)
        case atStart => exact ⟨0, Nat.zero_le _, by rw [HD0.out], rfl, rfl, Lib.hid hs.out.1⟩
        case round =>
          obtain ⟨q, hq, rfl, rfl, rfl, h2⟩ := hrel
          have hj1 : cntJ (perN l) C q ≤ 16000 := Nat.le_trans (cntJ_le _ _ _) (Nat.le_trans (Nat.mul_le_mul hC3 (by omega : q ≤ 16)) (by decide))
          obtain ⟨dv, hdv⟩ : ∃ b, divsB (perN l) q C = b := ⟨_, rfl⟩
          obtain ⟨Jq, hJq⟩ : ∃ J, cntJ (perN l) C q = J := ⟨_, rfl⟩
          rw [hdv, hJq]
          rw [hJq] at hj1
          by_cases hlt : q < n
          · have hki : (q : Int) < (n : Int) := by omega
            have h0k : (0 : Int) ≤ (q : Int) := by omega
            have hlt' : q < l.length := by rw [HN.out]; exact hlt
            obtain ⟨b, off, rfl, _, d0, d1, d2, d3⟩ := Sl.at4 (Sl.below HL.out h2.out) hlt'
            obtain ⟨P, hP1, hP2, hP3, hP4⟩ := HMS.out q hlt
            have HJS : Hid (cntJ (perN l) C (q + 1) = Jq + C / P) := Lib.hid (by rw [← hP2, ← hJq]; rfl)
            have HDS : Hid (divsB (perN l) (q + 1) C = (dv && (C % P == 0))) := Lib.hid (by rw [divsB_succ, hdv, hP2])
            obtain ⟨⟨nm, sz, per, dd⟩, hr⟩ : ∃ r, l.getD q msg0 = r := ⟨_, rfl⟩
            have hmk : msgAt l q = ⟨nm, sz, per, dd⟩ := hr
            rw [hr] at d0 d1 d2 d3
            rw [hmk] at hP1
            simp only [msgC] at d0 d1 d2 d3 hP1
            subst hP1
            obtain ⟨Q, hQ⟩ : ∃ Q, C / P = Q := ⟨_, rfl⟩
            rw [hQ] at HJS
            have hQ1 : Q ≤ 1000 := by rw [← hQ]; exact Nat.le_trans (Nat.div_le_self _ _) hC3
            have hgi : ¬ ((P : Int) = 0) := by omega
            have hgm : ¬ ((P : Int) = -1) := by omega
            have hdvi : (C : Int).tdiv (P : Int) = (Q : Int) := by rw [← hQ, Int.tdiv_eq_ediv_of_nonneg (by omega)]; rfl
            obtain ⟨M, hM⟩ : ∃ M, C % P = M := ⟨_, rfl⟩
            rw [hM] at HDS
            have hmod : (C : Int).tmod (P : Int) = (M : Int) := by rw [← hM, Int.tmod_eq_emod_of_nonneg (by omega)]; omega
            have hM1 : M ≤ 1000 := by rw [← hM]; exact Nat.le_trans (Nat.mod_le _ _) hC3
            clear hr hmk hQ hM hJq hdv d0 d1 d3
            cases dv with
            | false =>
              have HE : Hid (divsB (perN l) (q + 1) C = false) := Lib.hid HDS.out
              go_wp2_with fail
              go_roundw
              case rel => exact ⟨q + 1, by omega, by rw [HE.out], by rw [HJS.out]; go_num, by go_num, h2⟩
              case measure => simp [intOf]; omega
            | true =>
              by_cases hM0 : M = 0
              · subst hM0
                have HE : Hid (divsB (perN l) (q + 1) C = true) := Lib.hid HDS.out
                go_wp2_with fail
                go_roundw
                case rel => exact ⟨q + 1, by omega, by rw [HE.out], by rw [HJS.out]; go_num, by go_num, h2⟩
                case measure => simp [intOf]; omega
              · have HE : Hid (divsB (perN l) (q + 1) C = false) := Lib.hid (by rw [HDS.out]; simp [hM0])
                have hMi : ¬ ((M : Int) = 0) := by omega
                go_wp2_with fail
                go_roundw
                case rel => exact ⟨q + 1, by omega, by rw [HE.out]; first | done | (congr 1; rw [beq_eq_false_iff_ne]; omega), by rw [HJS.out]; go_num, by go_num, h2⟩
                case measure => simp [intOf]; omega
          · obtain rfl : q = n := by omega
            have HDVN := Lib.hid hdv
            have HJN := Lib.hid hJq
            clear hdv hJq hDV
            cases dv with
            | false =>
              have HNX : Hid (∀ d, 1 ≤ d → d < C + 1 → divsB (perN l) q d = false) := Lib.hid fun d h3 h4 => by
                by_cases e : d = C
                · subst e; exact HDVN.out
                · exact hs.out.2 d h3 (by omega)
              go_wp2_with fail
              go_roundw
              case rel => first | exact ⟨C + 1, by omega, by omega, by go_num, Lib.hid ⟨h2.out, HNX.out⟩⟩ | ((repeat apply Exists.intro); exact ⟨⟨C + 1, by omega, by omega, by go_num, Lib.hid ⟨h2.out, HNX.out⟩⟩, rfl⟩)
              case measure => simp [intOf]; omega
            | true =>
              have HCC : Hid (cycleN l = C) := Lib.hid (by
                rw [HCN.out]
                have h3 : lcmK (perN l) q ∣ C := divsB_iff.1 HDVN.out
                have h4 := Nat.le_of_dvd (by omega) h3
                have h5 := lcmK_pos (per := perN l) (n := q) HPOS.out
                rcases Nat.lt_or_ge (lcmK (perN l) q) C with h6 | h6
                · have := hs.out.2 _ h5 h6
                  rw [divsB_iff.2 (Nat.dvd_refl _)] at this
                  cases this
                · omega)
              rw [HCC.out, if_neg (by omega), HJN.out] at HCB
              by_cases hl : 256 < Jq
              · have hli : (256 : Int) < (Jq : Int) := by omega
                have HR : Hid (R = (0, 3)) := Lib.hid (by rw [HCB.out, if_pos hl])
                go_wp2_with fail
                go_ret2
                exact HFIN.out _ _ (by rw [HR.out]; rfl) h2.out
              · have hli : ¬ (256 : Int) < (Jq : Int) := by omega
                have HR : Hid (R = ((C : Int), 0)) := Lib.hid (by rw [HCB.out, if_neg hl])
                go_wp2_with fail
                go_ret2
                exact HFIN.out _ _ (by rw [HR.out]; rfl) h2.out
      · obtain rfl : C = 1001 := by omega
        have HR : Hid (R = (0, 3)) := Lib.hid (by
          rw [HCB.out, if_pos]
          rw [HCN.out]
          rcases Nat.lt_or_ge 1000 (lcmK (perN l) n) with h6 | h6
          · exact h6
          · have := hs.out.2 _ (lcmK_pos (per := perN l) (n := n) HPOS.out) (by omega)
            rw [divsB_iff.2 (Nat.dvd_refl _)] at this
            cases this)
        have hCi : ¬ ((1001 : Nat) : Int) ≤ 1000 := by omega
        go_wp2_with fail
        go_ret2
        exact HFIN.out _ _ (by rw [HR.out]; rfl) hs.out.1
end Go.Proofs.Ytnmccbjdfdbgpaa
/- What is proved: contracts of the document's Demand, next and nth. Conditions: the lists lie in memory. -/
namespace Go.Proofs.Ytnmccbjdfdbgpaa
open Go.RowKit

/-- A job of which so much is left. -/
def curJ (L : List JobD) (Lf : Nat → Nat) (i : Nat) : JobD := ⟨(JobD.at_ L i).msg, (JobD.at_ L i).src, (JobD.at_ L i).fin, Lf i⟩
def optI : Option Nat → Int
  | none => -1
  | some b => b

set_option maxRecDepth 100000 in
set_option maxHeartbeats 16000000 in
theorem demand_any (w : World) (A : Option Addr) (c : Nat) (L : List JobD) (a b : Nat) (h : Sl w w.heap.size 4 A L.length (fun i => jobC (L.getD i job0))) (hleft : ∀ i, i < L.length → (JobD.at_ L i).left ≤ 1000) (hn : L.length ≤ 4096) :
    Calls Try.prog 38 #[.slice A L.length c, .int .i64 a, .int .i64 b] w fun e w' => e = .returned (.int .i64 (demandB L a b : Nat)) ∧ Below w.heap.size w w' := by
  have HL := Lib.hid h
  have HDL := Lib.hid (demandK_le hleft a b)
  have HLF := Lib.hid hleft
  obtain ⟨n, hnn⟩ : ∃ n, L.length = n := ⟨_, rfl⟩
  have HN := Lib.hid hnn
  have HD : Hid (demandB L a b = demandK L a b n) := Lib.hid (by unfold demandB; rw [hnn])
  obtain ⟨R, hR⟩ : ∃ R, demandB L a b = R := ⟨_, rfl⟩
  have HFIN : Hid (∀ (e : Ending) (w' : World), e = .returned (.int .i64 (R : Nat)) → Below w.heap.size w w' → e = .returned (.int .i64 (R : Nat)) ∧ Below w.heap.size w w') := Lib.hid fun _ _ a b => ⟨a, b⟩
  rw [hnn] at hn HDL ⊢
  rw [hR] at HD ⊢
  clear h hleft hnn hR
  go_enter Try.func38, Try.ntmps38
  go_wp2_with fail
  go_loopw [7, 8] (fun s i wr => ∃ k : Nat, k ≤ n ∧ s = .int .i64 (demandK L a b k : Nat) ∧ i = .int .i64 k ∧ Hid (Below w.heap.size w wr)) (fun _ i _ => n - (intOf i).toNat)
  case atStart => exact ⟨0, Nat.zero_le _, rfl, rfl, Lib.hid (Below.refl _ _)⟩
  case round =>
    obtain ⟨k, hk, rfl, rfl, hs⟩ := hrel
    have hj1 := HDL.out k hk
    have hds : demandK L a b (k + 1) = demandK L a b k + if a ≤ (JobD.at_ L k).src ∧ (JobD.at_ L k).fin ≤ b then (JobD.at_ L k).left else 0 := rfl
    obtain ⟨J, hJ⟩ : ∃ J, demandK L a b k = J := ⟨_, rfl⟩
    have HJ := Lib.hid hJ
    rw [hJ] at hj1 hds ⊢
    clear hJ
    by_cases hlt : k < n
    · have hki : (k : Int) < (n : Int) := by omega
      have h0k : (0 : Int) ≤ (k : Int) := by omega
      have hlt' : k < L.length := by rw [HN.out]; exact hlt
      obtain ⟨bb, off, rfl, _, d0, d1, d2, d3⟩ := Sl.at4 (Sl.below HL.out hs.out) hlt'
      have hjl := HLF.out k hlt'
      obtain ⟨⟨ms, src, fn, lf⟩, hr⟩ : ∃ r, L.getD k job0 = r := ⟨_, rfl⟩
      have hj : JobD.at_ L k = ⟨ms, src, fn, lf⟩ := hr
      rw [hr] at d0 d1 d2 d3
      simp only [jobC] at d0 d1 d2 d3
      rw [hj] at hjl hds
      simp only at hjl hds
      have HDS := Lib.hid hds
      clear hr hj hds d0
      by_cases h1 : a ≤ src
      · have h1i : (a : Int) ≤ (src : Int) := by omega
        have h1d : decide ((a : Int) ≤ (src : Int)) = true := decide_eq_true h1i
        by_cases h2 : fn ≤ b
        · have h2i : (fn : Int) ≤ (b : Int) := by omega
          have h2d : decide ((fn : Int) ≤ (b : Int)) = true := decide_eq_true h2i
          have HE : Hid (demandK L a b (k + 1) = J + lf) := Lib.hid (by rw [HDS.out, if_pos ⟨h1, h2⟩])
          go_wp2_with fail
          go_roundw
          case rel => exact ⟨k + 1, by omega, by rw [HE.out]; go_num, by go_num, hs⟩
          case measure => simp [intOf]; omega
        · have h2i : ¬ (fn : Int) ≤ (b : Int) := by omega
          have HE : Hid (demandK L a b (k + 1) = J) := Lib.hid (by rw [HDS.out, if_neg (fun h => h2 h.2)]; rfl)
          go_wp2_with fail
          go_roundw
          case rel => exact ⟨k + 1, by omega, by rw [HE.out], by go_num, hs⟩
          case measure => simp [intOf]; omega
      · have h1i : ¬ (a : Int) ≤ (src : Int) := by omega
        have HE : Hid (demandK L a b (k + 1) = J) := Lib.hid (by rw [HDS.out, if_neg (fun h => h1 h.1)]; rfl)
        go_wp2_with fail
        go_roundw
        case rel => exact ⟨k + 1, by omega, by rw [HE.out], by go_num, hs⟩
        case measure => simp [intOf]; omega
    · obtain rfl : k = n := by omega
      go_wp2_with fail
      go_ret
      exact HFIN.out _ _ (by rw [HD.out, HJ.out]; rfl) hs.out

set_option maxRecDepth 100000 in
set_option maxHeartbeats 16000000 in
theorem next_any (w : World) (A : Option Addr) (c : Nat) (L : List JobD) (Lf : Nat → Nat) (t : Nat) (h : Sl w w.heap.size 4 A L.length (fun i => jobC (curJ L Lf i))) (hn : L.length ≤ 4096) :
    Calls Try.prog 55 #[.slice A L.length c, .int .i64 t] w fun e w' => e = .returned (.int .i64 (optI (bestB L Lf t))) ∧ Below w.heap.size w w' := by
  have HL := Lib.hid h
  obtain ⟨n, hnn⟩ : ∃ n, L.length = n := ⟨_, rfl⟩
  have HN := Lib.hid hnn
  have HD : Hid (bestB L Lf t = bestK L Lf t n) := Lib.hid (by unfold bestB; rw [hnn])
  obtain ⟨R, hR⟩ : ∃ R, bestB L Lf t = R := ⟨_, rfl⟩
  have HFIN : Hid (∀ (e : Ending) (w' : World), e = .returned (.int .i64 (optI R)) → Below w.heap.size w w' → e = .returned (.int .i64 (optI R)) ∧ Below w.heap.size w w') := Lib.hid fun _ _ a b => ⟨a, b⟩
  rw [hnn] at hn ⊢
  rw [hR] at HD ⊢
  clear h hnn hR
  go_enter Try.func55, Try.ntmps55
  go_wp2_with fail
  go_loopw [5, 6] (fun s i wr => ∃ k : Nat, k ≤ n ∧ s = .int .i64 (optI (bestK L Lf t k)) ∧ i = .int .i64 k ∧ Hid (Below w.heap.size w wr)) (fun _ i _ => n - (intOf i).toNat)
  case atStart => exact ⟨0, Nat.zero_le _, rfl, rfl, Lib.hid (Below.refl _ _)⟩
  case round =>
    obtain ⟨k, hk, rfl, rfl, hs⟩ := hrel
    have hds : bestK L Lf t (k + 1) = if waitB L Lf t k then
      match bestK L Lf t k with
      | none => some k
      | some b => if (JobD.at_ L k).fin < (JobD.at_ L b).fin then some k else some b
      else bestK L Lf t k := rfl
    have HBD := Lib.hid fun b (h : bestK L Lf t k = some b) => (bestK_some h).1
    obtain ⟨J, hJ⟩ : ∃ J, bestK L Lf t k = J := ⟨_, rfl⟩
    have HJ := Lib.hid hJ
    rw [hJ] at hds HBD ⊢
    clear hJ
    by_cases hlt : k < n
    · have hki : (k : Int) < (n : Int) := by omega
      have h0k : (0 : Int) ≤ (k : Int) := by omega
      have hlt' : k < L.length := by rw [HN.out]; exact hlt
      obtain ⟨bb, off, hA, _, d0, d1, d2, d3⟩ := Sl.at4 (Sl.below HL.out hs.out) hlt'
      obtain ⟨⟨ms, src, fn, l0⟩, hr⟩ : ∃ r, JobD.at_ L k = r := ⟨_, rfl⟩
      obtain ⟨lf, hlf⟩ : ∃ x, Lf k = x := ⟨_, rfl⟩
      simp only [jobC, curJ, hr, hlf] at d0 d1 d2 d3
      have HW : Hid (waitB L Lf t k = (decide (src ≤ t) && decide (0 < lf))) := Lib.hid (by unfold waitB; rw [hr, hlf])
      rw [hr] at hds
      simp only at hds
      have HDS := Lib.hid hds
      have HBE : Hid (∀ o, Below w.heap.size w (wr.alloc o)) := Lib.hid fun o => hs.out.trans (((Below.refl _ _).alloc (Nat.le_refl _) o).mono hs.out.size)
      have HNX : Hid (∀ o m, Below w.heap.size w ((wr.alloc o).drewN m)) := Lib.hid fun o m => below_drewN (HBE.out o) m
      clear hr hlf hds
      subst hA
      by_cases h1 : src ≤ t
      · have h1i : (src : Int) ≤ (t : Int) := by omega
        have h1d : decide ((src : Int) ≤ (t : Int)) = true := decide_eq_true h1i
        by_cases h2 : 0 < lf
        · have h2i : (0 : Int) < (lf : Int) := by omega
          have h2d : decide ((0 : Int) < (lf : Int)) = true := decide_eq_true h2i
          have HWT : Hid (waitB L Lf t k = true) := Lib.hid (by rw [HW.out]; simp [h1, h2])
          cases J with
          | none =>
            have HE : Hid (bestK L Lf t (k + 1) = some k) := Lib.hid (by rw [HDS.out, if_pos HWT.out])
            show Code.wp _ _ _ _ _
            simp only [optI]
            go_wp2_with fail
            go_quiet (fail)
            go_wp2_with fail
            go_roundw
            case rel => exact ⟨k + 1, by omega, by rw [HE.out] <;> rfl, by go_num, Lib.hid (HNX.out _ _)⟩
            case measure => simp [intOf]; omega
          | some b =>
            have hbk := HBD.out b rfl
            obtain ⟨⟨ms', src', fb, l0'⟩, hr'⟩ : ∃ r, JobD.at_ L b = r := ⟨_, rfl⟩
            have hb' : b < L.length := by omega
            obtain ⟨bb', off', hA', _, _, _, e2, _⟩ := Sl.at4 (Sl.below HL.out hs.out) hb'
            simp only [Option.some.injEq, Addr.mk.injEq, and_true] at hA'
            obtain ⟨rfl, rfl⟩ := hA'
            simp only [jobC, curJ, hr'] at e2
            have f2 : ∀ o, (wr.alloc o).cell? ⟨bb, off + b * 4 + 2, none⟩ = some (.int .i64 fb) := fun o => Lib.cell?_alloc_some _ e2
            have hbi : ¬ (b : Int) < 0 := by omega
            have hbd : decide ((b : Int) < 0) = false := decide_eq_false hbi
            have h0b : (0 : Int) ≤ (b : Int) := by omega
            have hbn : (b : Int) < (n : Int) := by omega
            have HDS2 : Hid (bestK L Lf t (k + 1) = if fn < fb then some k else some b) := Lib.hid (by rw [HDS.out, if_pos HWT.out]; simp only [hr'])
            simp only [optI]
            clear hr' e2
            by_cases h3 : fn < fb
            · have h3i : (fn : Int) < (fb : Int) := by omega
              have h3d : decide ((fn : Int) < (fb : Int)) = true := decide_eq_true h3i
              have HE : Hid (bestK L Lf t (k + 1) = some k) := Lib.hid (by rw [HDS2.out, if_pos h3])
              go_wp2_with fail
              go_quiet (fail)
              go_wp2_with fail
              go_roundw
              case rel => exact ⟨k + 1, by omega, by rw [HE.out] <;> rfl, by go_num, Lib.hid (HNX.out _ _)⟩
              case measure => simp [intOf]; omega
            · have h3i : ¬ (fn : Int) < (fb : Int) := by omega
              have h3d : decide ((fn : Int) < (fb : Int)) = false := decide_eq_false h3i
              have HE : Hid (bestK L Lf t (k + 1) = some b) := Lib.hid (by rw [HDS2.out, if_neg h3])
              go_wp2_with fail
              go_quiet (fail)
              go_wp2_with fail
              go_roundw
              case rel => exact ⟨k + 1, by omega, by rw [HE.out] <;> rfl, by go_num, Lib.hid (HNX.out _ _)⟩
              case measure => simp [intOf]; omega
        · have h2i : ¬ (0 : Int) < (lf : Int) := by omega
          have h2d : decide ((0 : Int) < (lf : Int)) = false := decide_eq_false h2i
          have HE : Hid (bestK L Lf t (k + 1) = J) := Lib.hid (by rw [HDS.out, if_neg (by rw [HW.out]; simp [h2])])
          go_wp2_with fail
          go_quiet (fail)
          go_wp2_with fail
          go_roundw
          case rel => exact ⟨k + 1, by omega, by rw [HE.out], by go_num, Lib.hid (HNX.out _ _)⟩
          case measure => simp [intOf]; omega
      · have h1i : ¬ (src : Int) ≤ (t : Int) := by omega
        have h1d : decide ((src : Int) ≤ (t : Int)) = false := decide_eq_false h1i
        have HE : Hid (bestK L Lf t (k + 1) = J) := Lib.hid (by rw [HDS.out, if_neg (by rw [HW.out]; simp [h1])])
        go_wp2_with fail
        go_quiet (fail)
        go_wp2_with fail
        go_roundw
        case rel => exact ⟨k + 1, by omega, by rw [HE.out], by go_num, Lib.hid (HNX.out _ _)⟩
        case measure => simp [intOf]; omega
    · obtain rfl : k = n := by omega
      go_wp2_with fail
      go_ret
      exact HFIN.out _ _ (by rw [HD.out, HJ.out]; rfl) hs.out
end Go.Proofs.Ytnmccbjdfdbgpaa
/- What is proved: contracts of the document's nth and Midpoint. Conditions: the list lies in memory. -/
namespace Go.Proofs.Ytnmccbjdfdbgpaa
open Go.RowKit

theorem befK_le (l : List Int) (i : Nat) : ∀ k, befK l i k ≤ k
  | 0 => Nat.le_refl _
  | k + 1 => by have := befK_le l i k; unfold befK; split <;> omega
set_option maxRecDepth 100000 in
set_option maxHeartbeats 16000000 in
theorem nth_any (w : World) (A : Option Addr) (c : Nat) (l : List Int) (m : Nat) (h : IntsAt w w.heap.size A l) (hm : m < l.length) :
    Calls Try.prog 69 #[.slice A l.length c, .int .i64 m] w fun e w' => e = .returned (.int .i64 (getI (sortB l) m)) ∧ Below w.heap.size w w' := by
  rw [← nthB_eq hm]
  have HL := Lib.hid h
  have hll := h.1
  obtain ⟨n, hnn⟩ : ∃ n, l.length = n := ⟨_, rfl⟩
  have HN := Lib.hid hnn
  have HNB : Hid (nthB l m = nthFrom l m n 0) := Lib.hid (by unfold nthB; rw [hnn])
  have HNF : Hid (∀ n i, nthFrom l m (n + 1) i = if befK l i l.length = m then getI l i else nthFrom l m n (i + 1)) := Lib.hid fun _ _ => rfl
  obtain ⟨R, hR⟩ : ∃ R, nthB l m = R := ⟨_, rfl⟩
  have HFIN : Hid (∀ (e : Ending) (w' : World), e = .returned (.int .i64 R) → Below w.heap.size w w' → e = .returned (.int .i64 R) ∧ Below w.heap.size w w') := Lib.hid fun _ _ a b => ⟨a, b⟩
  rw [hnn] at hll hm HNF ⊢
  rw [hR] at HNB ⊢
  clear h hnn hR
  go_enter Try.func69, Try.ntmps69
  go_wp2_with fail
  go_loopw [5] (fun i wr => ∃ k : Nat, k ≤ n ∧ i = .int .i64 k ∧ Hid (Below w.heap.size w wr ∧ R = nthFrom l m (n - k) k)) (fun i _ => n - (intOf i).toNat)
  case atStart => exact ⟨0, Nat.zero_le _, rfl, Lib.hid ⟨Below.refl _ _, HNB.out⟩⟩
  case round =>
    obtain ⟨i, hi, rfl, hs⟩ := hrel
    by_cases hlt : i < n
    · have hii : (i : Int) < (n : Int) := by omega
      have h0i : (0 : Int) ≤ (i : Int) := by omega
      have hlt' : i < l.length := by rw [HN.out]; exact hlt
      have HST : Hid (R = if befK l i n = m then getI l i else nthFrom l m (n - (i + 1)) (i + 1)) := Lib.hid (by rw [hs.out.2, show n - i = (n - (i + 1)) + 1 from by omega, HNF.out])
      go_wp2_with fail
      go_loopw [6, 7] (fun s t wr => ∃ k : Nat, k ≤ n ∧ s = .int .i64 (befK l i k : Nat) ∧ t = .int .i64 k ∧ Hid (Below w.heap.size w wr)) (fun _ t _ => n - (intOf t).toNat)
      case atStart => exact ⟨0, Nat.zero_le _, rfl, rfl, Lib.hid hs.out.1⟩
      case round =>
        obtain ⟨k, hk, rfl, rfl, h2⟩ := hrel
        have hbl := befK_le l i k
        have hbs : befK l i (k + 1) = befK l i k + if getI l k < getI l i ∨ (getI l k = getI l i ∧ k < i) then 1 else 0 := rfl
        obtain ⟨J, hJ⟩ : ∃ J, befK l i k = J := ⟨_, rfl⟩
        have HJ := Lib.hid hJ
        rw [hJ] at hbl hbs ⊢
        clear hJ
        obtain ⟨bb, off, hA, _, d0⟩ := Sl.at1 (Sl.below HL.out h2.out) hlt'
        subst hA
        obtain ⟨x, hx⟩ : ∃ x, getI l i = x := ⟨_, rfl⟩
        have HX := Lib.hid hx
        try dsimp only at d0
        rw [hx] at d0 hbs
        by_cases hkn : k < n
        · have hki : (k : Int) < (n : Int) := by omega
          have h0k : (0 : Int) ≤ (k : Int) := by omega
          have hkt : k < l.length := by rw [HN.out]; exact hkn
          obtain ⟨bb', off', hA', _, e0⟩ := Sl.at1 (Sl.below HL.out h2.out) hkt
          simp only [Option.some.injEq, Addr.mk.injEq, and_true] at hA'
          obtain ⟨rfl, rfl⟩ := hA'
          obtain ⟨y, hy⟩ : ∃ y, getI l k = y := ⟨_, rfl⟩
          try dsimp only at e0
          rw [hy] at e0 hbs
          have HBS := Lib.hid hbs
          have HNX : Hid (∀ m, Below w.heap.size w (wr.drewN m)) := Lib.hid fun m => below_drewN h2.out m
          clear hx hy hbs
          by_cases h1 : y < x
          · have h1d : decide (y < x) = true := decide_eq_true h1
            have HE : Hid (befK l i (k + 1) = J + 1) := Lib.hid (by rw [HBS.out, if_pos (Or.inl h1)])
            go_wp2_with fail
            go_quiet (fail)
            go_wp2_with fail
            go_roundw
            case rel => exact ⟨k + 1, by omega, by rw [HE.out]; go_num, by go_num, Lib.hid (HNX.out _)⟩
            case measure => simp [intOf]; omega
          · have h1d : decide (y < x) = false := decide_eq_false h1
            by_cases h2e : y = x
            · subst h2e
              by_cases h3 : k < i
              · have h3i : (k : Int) < (i : Int) := by omega
                have h3d : decide ((k : Int) < (i : Int)) = true := decide_eq_true h3i
                have HE : Hid (befK l i (k + 1) = J + 1) := Lib.hid (by rw [HBS.out, if_pos (Or.inr ⟨rfl, h3⟩)])
                go_wp2_with fail
                go_quiet (fail)
                go_wp2_with fail
                go_roundw
                case rel => exact ⟨k + 1, by omega, by rw [HE.out]; go_num, by go_num, Lib.hid (HNX.out _)⟩
                case measure => simp [intOf]; omega
              · have h3i : ¬ (k : Int) < (i : Int) := by omega
                have h3d : decide ((k : Int) < (i : Int)) = false := decide_eq_false h3i
                have HE : Hid (befK l i (k + 1) = J) := Lib.hid (by rw [HBS.out, if_neg (by rintro (h | h); exact h1 h; exact h3 h.2)]; rfl)
                go_wp2_with fail
                go_quiet (fail)
                go_wp2_with fail
                go_roundw
                case rel => exact ⟨k + 1, by omega, by rw [HE.out], by go_num, Lib.hid (HNX.out _)⟩
                case measure => simp [intOf]; omega
            · have h2d : (y == x) = false := by rw [beq_eq_false_iff_ne]; exact h2e
              have h2f : decide (y = x) = false := decide_eq_false h2e
              have HE : Hid (befK l i (k + 1) = J) := Lib.hid (by rw [HBS.out, if_neg (by rintro (h | h); exact h1 h; exact h2e h.1)]; rfl)
              go_wp2_with fail
              go_quiet (fail)
              go_wp2_with fail
              go_roundw
              case rel => exact ⟨k + 1, by omega, by rw [HE.out], by go_num, Lib.hid (HNX.out _)⟩
              case measure => simp [intOf]; omega
        · obtain rfl : k = n := by omega
          rw [HJ.out, HX.out] at HST
          clear hx hbs
          by_cases hJm : J = m
          · subst hJm
            have HRE : Hid (R = x) := Lib.hid (by rw [HST.out, if_pos rfl])
            go_wp2_with fail
            go_ret
            exact HFIN.out _ _ (by rw [HRE.out]; rfl) h2.out
          · have hJi : ¬ (J : Int) = (m : Int) := by omega
            have HRE : Hid (R = nthFrom l m (k - (i + 1)) (i + 1)) := Lib.hid (by rw [HST.out, if_neg hJm])
            go_wp2_with fail
            go_roundw
            case rel => first | exact ⟨i + 1, by omega, by go_num, Lib.hid ⟨h2.out, HRE.out⟩⟩ | ((repeat apply Exists.intro); exact ⟨⟨i + 1, by omega, by go_num, Lib.hid ⟨h2.out, HRE.out⟩⟩, rfl⟩)
            case measure => simp [intOf]; omega
    · obtain rfl : i = n := by omega
      have HR0 : Hid (R = 0) := Lib.hid (by rw [hs.out.2, Nat.sub_self]; rfl)
      go_wp2_with fail
      go_ret
      exact HFIN.out _ _ (by rw [HR0.out]; rfl) hs.out.1
end Go.Proofs.Ytnmccbjdfdbgpaa
/- What is proved: a contract of the document's Midpoint. Conditions: the list lies in memory. -/
namespace Go.Proofs.Ytnmccbjdfdbgpaa
open Go.RowKit

theorem sort_range {l : List Int} (h : ∀ i, i < l.length → inB (getI l i) (-1073741824) 1073741824 = true) {k : Nat} (hk : k < l.length) : -1073741824 ≤ getI (sortB l) k ∧ getI (sortB l) k ≤ 1073741824 := by
  have hp := sortB_perm l
  have hsl := sortB_len l
  have hlt : k < (sortB l).length := by rw [hsl]; exact hk
  have hm : getI (sortB l) k ∈ l := hp.mem_iff.1 (by unfold getI; rw [List.getD_eq_getElem?_getD, List.getElem?_eq_getElem hlt]; exact List.getElem_mem hlt)
  obtain ⟨i, hi, he⟩ := List.getElem_of_mem hm
  have := h i hi
  rw [show getI l i = getI (sortB l) k from by rw [← he]; unfold getI; rw [List.getD_eq_getElem?_getD, List.getElem?_eq_getElem hi]; rfl] at this
  exact inB_iff.1 this
set_option maxRecDepth 100000 in
set_option maxHeartbeats 16000000 in
theorem refMid_any (w : World) (A : Option Addr) (c : Nat) (l : List Int) (f : Int) (h : IntsAt w w.heap.size A l) :
    Calls Try.prog 32 #[.slice A l.length c, .int .i64 f] w fun e w' => e = .returned (.tuple #[.int .i64 (midpB l f).1, .int .i64 (midpB l f).2]) ∧ Below w.heap.size w w' := by
  have hll := h.1
  have HI1 := Lib.hid fun w' => in_any f 0 1073741824 w'
  have HI2 := Lib.hid fun w' => in_any l.length (2 * f + 1) 100 w'
  have HI3 := Lib.hid fun x w' => in_any x (-1073741824) 1073741824 w'
  have HD : Hid (midpB l f = if inB f 0 1073741824 && inB l.length (2 * f + 1) 100 && allN l.length (fun i => inB (getI l i) (-1073741824) 1073741824) then (midB l f.toNat, 0) else (0, 4)) := Lib.hid rfl
  have HL := Lib.hid h
  obtain ⟨r, hr⟩ : ∃ r, midpB l f = r := ⟨_, rfl⟩
  rw [hr] at HD ⊢
  have HFIN : Hid (∀ (e : Ending) (w' : World), e = .returned (.tuple #[.int .i64 r.1, .int .i64 r.2]) → Below w.heap.size w w' → e = .returned (.tuple #[.int .i64 r.1, .int .i64 r.2]) ∧ Below w.heap.size w w') := Lib.hid fun _ _ a b => ⟨a, b⟩
  obtain ⟨b1, hb1⟩ : ∃ b, inB f 0 1073741824 = b := ⟨_, rfl⟩
  rw [hb1] at HI1 HD
  obtain ⟨n, hn⟩ : ∃ n, l.length = n := ⟨_, rfl⟩
  have HN := Lib.hid hn
  obtain ⟨b2, hb2⟩ : ∃ b, inB l.length (2 * f + 1) 100 = b := ⟨_, rfl⟩
  have HB2 := Lib.hid hb2
  rw [hb2] at HI2 HD
  rw [hn] at hll HI2 HB2 HD ⊢
  clear h hr hn hb2
  cases b1 with
  | false =>
    have HR : Hid (r = (0, 4)) := Lib.hid HD.out
    clear hb1
    go_enter Try.func32, Try.ntmps32
    go_wp2_with fail
    refine (HI1.out _).mono ?_
    rintro e w' ⟨rfl, rfl⟩
    go_wp2_with fail
    go_ret2
    exact HFIN.out _ _ (by rw [HR.out]; rfl) (Below.refl _ _)
  | true =>
    have hf := inB_iff.1 hb1
    have hw1 : 2 * f + 1 ≤ 9223372036854775807 := by omega
    have hw2 : -9223372036854775808 ≤ 2 * f + 1 := by omega
    clear hb1
    cases b2 with
    | false =>
      have HR : Hid (r = (0, 4)) := Lib.hid HD.out
      go_enter Try.func32, Try.ntmps32
      go_wp2_with fail
      refine (HI1.out _).mono ?_
      rintro e w' ⟨rfl, rfl⟩
      go_wp2_with fail
      refine (HI2.out _).mono ?_
      rintro e w' ⟨rfl, rfl⟩
      go_wp2_with fail
      go_ret2
      exact HFIN.out _ _ (by rw [HR.out]; rfl) (Below.refl _ _)
    | true =>
      obtain ⟨hn1, hn2⟩ := inB_iff.1 HB2.out
      obtain ⟨F, hF⟩ : ∃ F : Nat, f = F := ⟨f.toNat, by omega⟩
      subst hF
      have hF2 : 2 * F + 1 ≤ n := by omega
      rw [Int.toNat_natCast] at HD
      have HBAD : Hid (∀ k, k < n → inB (getI l k) (-1073741824) 1073741824 = false → r = (0, 4)) := Lib.hid fun k hk hb => by
        have : (allN n fun i => inB (getI l i) (-1073741824) 1073741824) = false := by
          cases ha : allN n fun i => inB (getI l i) (-1073741824) 1073741824 with
          | false => rfl
          | true => rw [allN_iff.1 ha k hk] at hb; cases hb
        rw [HD.out, this]; rfl
      go_enter Try.func32, Try.ntmps32
      go_wp2_with fail
      refine (HI1.out _).mono ?_
      rintro e w' ⟨rfl, rfl⟩
      go_wp2_with fail
      refine (HI2.out _).mono ?_
      rintro e w' ⟨rfl, rfl⟩
      go_wp2_with fail
      go_loopw [6] (fun i wr => ∃ k : Nat, k ≤ n ∧ i = .int .i64 k ∧ Hid (Below w.heap.size w wr ∧ (∀ j, j < k → inB (getI l j) (-1073741824) 1073741824 = true))) (fun i _ => n - (intOf i).toNat)
      case atStart => exact ⟨0, Nat.zero_le _, rfl, Lib.hid ⟨Below.refl _ _, fun j hj => absurd hj (Nat.not_lt_zero j)⟩⟩
      case round =>
        obtain ⟨k, hk, rfl, hs⟩ := hrel
        by_cases hlt : k < n
        · have hki : (k : Int) < (n : Int) := by omega
          have h0k : (0 : Int) ≤ (k : Int) := by omega
          have hkt : k < l.length := by rw [HN.out]; exact hlt
          obtain ⟨bb, off, rfl, _, d0⟩ := Sl.at1 (Sl.below HL.out hs.out.1) hkt
          obtain ⟨x, hx⟩ : ∃ x, getI l k = x := ⟨_, rfl⟩
          have HX := Lib.hid hx
          try dsimp only at d0
          rw [hx] at d0
          clear hx
          obtain ⟨bx, hbx⟩ : ∃ b, inB x (-1073741824) 1073741824 = b := ⟨_, rfl⟩
          have HBX := Lib.hid hbx
          have HIX := Lib.hid (HI3.out x)
          rw [hbx] at HIX
          clear hbx
          cases bx with
          | false =>
            have HR : Hid (r = (0, 4)) := Lib.hid (HBAD.out k hlt (by rw [HX.out]; exact HBX.out))
            go_wp2_with fail
            refine (HIX.out _).mono ?_
            rintro e w2 ⟨rfl, rfl⟩
            go_wp2_with fail
            go_ret2
            exact HFIN.out _ _ (by rw [HR.out]; rfl) hs.out.1
          | true =>
            go_wp2_with fail
            refine (HIX.out _).mono ?_
            rintro e w2 ⟨rfl, rfl⟩
            go_wp2_with fail
            go_roundw
            case rel => exact ⟨k + 1, by omega, by go_num, Lib.hid ⟨hs.out.1, fun j hj => by
              by_cases e : j = k
              · subst e; rw [HX.out]; exact HBX.out
              · exact hs.out.2 j (by omega)⟩⟩
            case measure => simp [intOf]; omega
        · obtain rfl : k = n := by omega
          obtain ⟨x, hx⟩ : ∃ x, getI (sortB l) F = x := ⟨_, rfl⟩
          obtain ⟨y, hy⟩ : ∃ y, getI (sortB l) (k - 1 - F) = y := ⟨_, rfl⟩
          have HR2 : Hid (r = ((x + y) / 2, 0)) := Lib.hid (by
            have ha : (allN k fun i => inB (getI l i) (-1073741824) 1073741824) = true := allN_iff.2 hs.out.2
            rw [HD.out, ha]
            show (midB l F, (0 : Int)) = _
            unfold midB
            rw [HN.out, hx, hy])
          have hra : ∀ i, i < l.length → inB (getI l i) (-1073741824) 1073741824 = true := by rw [HN.out]; exact hs.out.2
          have hxr := sort_range hra (k := F) (by rw [HN.out]; omega)
          have hyr := sort_range hra (k := k - 1 - F) (by rw [HN.out]; omega)
          rw [hx] at hxr
          rw [hy] at hyr
          have HN1 : Hid (∀ w2, Below w.heap.size w w2 → Calls Try.prog 69 #[.slice A k c, .int .i64 F] w2 fun e w3 => e = .returned (.int .i64 x) ∧ Below w2.heap.size w2 w3) := Lib.hid fun w2 hb => by
            have := nth_any w2 A c l F (Sl.mono (Sl.below HL.out hb) hb.size) (by rw [HN.out]; omega)
            rw [hx, HN.out] at this; exact this
          have HN2 : Hid (∀ w2, Below w.heap.size w w2 → Calls Try.prog 69 #[.slice A k c, .int .i64 (k - 1 - F : Nat)] w2 fun e w3 => e = .returned (.int .i64 y) ∧ Below w2.heap.size w2 w3) := Lib.hid fun w2 hb => by
            have := nth_any w2 A c l (k - 1 - F) (Sl.mono (Sl.below HL.out hb) hb.size) (by rw [HN.out]; omega)
            rw [hy, HN.out] at this; exact this
          have hi2 : (k : Int) - 1 - F = ((k - 1 - F : Nat) : Int) := by omega
          clear hx hy hra
          go_wp2_with fail
          refine (HN1.out _ hs.out.1).mono ?_
          rintro e w2 ⟨rfl, hb2⟩
          have HB3 := Lib.hid (hs.out.1.trans (hb2.mono hs.out.1.size))
          clear hb2
          go_wp2_with fail
          refine (HN2.out _ HB3.out).mono ?_
          rintro e w3 ⟨rfl, hb3⟩
          have HB4 := Lib.hid (HB3.out.trans (hb3.mono HB3.out.size))
          clear hb3
          by_cases hneg : x + y < 0
          · obtain ⟨z, hz⟩ : ∃ z, (1 - (x + y)).tdiv 2 = z := ⟨_, rfl⟩
            have HZ : Hid (-z = (x + y) / 2) := Lib.hid (by rw [← hz, Int.tdiv_eq_ediv_of_nonneg (by omega)]; omega)
            have hzr : 0 ≤ z ∧ z ≤ 1073741825 := by rw [← hz, Int.tdiv_eq_ediv_of_nonneg (by omega)]; omega
            go_wp2_with fail
            go_ret2
            exact HFIN.out _ _ (by rw [HR2.out, ← HZ.out]; rfl) HB4.out
          · obtain ⟨z, hz⟩ : ∃ z, (x + y).tdiv 2 = z := ⟨_, rfl⟩
            have HZ : Hid (z = (x + y) / 2) := Lib.hid (by rw [← hz, Int.tdiv_eq_ediv_of_nonneg (by omega)])
            have hzr : 0 ≤ z ∧ z ≤ 1073741825 := by rw [← hz, Int.tdiv_eq_ediv_of_nonneg (by omega)]; omega
            have hnd : decide (x + y < 0) = false := decide_eq_false hneg
            clear hneg
            go_wp2_with fail
            go_ret2
            exact HFIN.out _ _ (by rw [HR2.out, ← HZ.out]; rfl) HB4.out
end Go.Proofs.Ytnmccbjdfdbgpaa
/- What is proved: a contract of the document's Jobs. Conditions: the messages lie in memory, are valid, and the cycle is one of theirs. -/
namespace Go.Proofs.Ytnmccbjdfdbgpaa
open Go.RowKit

theorem infoRJ : (Try.prog.info? 99).map (fun i => (i.zero, i.size, i.bytes)) = some (some (.agg #[.int .i64 0, .int .i64 0, .int .i64 0, .int .i64 0]), 4, 32) := by kernel_rfl
def JobJ (wr : World) (B : Nat) (T : TypeId) (v : Value) (n : Nat) (xs cs : List Value) (d16 d17 d18 : Bool) (v16 v17 v18 : Value) (w1 : World) : Prop :=
  (d17 = false → Below wr.heap.size wr w1 ∧ (d16 = true → ∃ g, v16 = .slice (some ⟨g, 0, none⟩) 1 1 ∧ Bk w1 g T cs.toArray)) ∧
  (d17 = true → ∃ w0, Below wr.heap.size wr w0 ∧ w1.ownsRow B T 4 v17 (n + 1) (xs ++ cs) ∧ w0.grownBy w1 v.ownBlock) ∧ (d18 = true → v18 = v17)
theorem JobJ.start (wr : World) (B : Nat) (T : TypeId) (v : Value) (n : Nat) (xs cs : List Value) (v16 v17 v18 : Value) : JobJ wr B T v n xs cs false false false v16 v17 v18 wr.drew :=
  ⟨fun _ => ⟨(Below.refl _ _).drew, fun h => absurd h (by decide)⟩, fun h => absurd h (by decide), fun h => absurd h (by decide)⟩
def RefJobsPost (w : World) (L : List JobD) (e : Ending) (w' : World) : Prop :=
  ∃ A c, e = .returned (.slice A L.length c) ∧ Cl w' w.heap.size 99 4 A L.length (fun i => jobC (L.getD i job0)) ∧ Below w.heap.size w w'

set_option maxRecDepth 100000 in
set_option maxHeartbeats 16000000 in
theorem refJobs_any (w : World) (A : Option Addr) (c : Nat) (l : List MsgD) (C : Nat) (h : MsgsAt w w.heap.size A l) (hv : validB l = true) (hC : C ≤ 1000) (hd : ∀ i, i < l.length → perN l i ∣ C) (hL : (jobsB (msgN l) C).length ≤ 4096) :
    Calls Try.prog 39 #[.slice A l.length c, .int .i64 C] w (RefJobsPost w (jobsB (msgN l) C)) := by
  have HL := Lib.hid h
  have hll := h.1
  have hn16 := validB_len hv
  obtain ⟨n, hn⟩ : ∃ n, l.length = n := ⟨_, rfl⟩
  have HN := Lib.hid hn
  have HMS : Hid (∀ k, k < n → ∃ P E S : Nat, (msgAt l k).per = P ∧ (msgAt l k).dead = E ∧ (msgAt l k).size = S ∧ (msgN l).per k = P ∧ (msgN l).dead k = E ∧ (msgN l).size k = S ∧ 1 ≤ P ∧ P ≤ 1000 ∧ E ≤ 1000 ∧ S ≤ 1000 ∧ P ∣ C) := Lib.hid fun k hk => by
    have := validB_msg hv (by rw [hn]; exact hk)
    exact ⟨(msgAt l k).per.toNat, (msgAt l k).dead.toNat, (msgAt l k).size.toNat, by omega, by omega, by omega, rfl, rfl, rfl, by omega, by omega, by omega, by omega, hd k (by rw [hn]; exact hk)⟩
  obtain ⟨m, hm⟩ : ∃ m, msgN l = m := ⟨_, rfl⟩
  rw [hm] at HMS hL ⊢
  have HMN : Hid (m.n = n) := Lib.hid (by rw [← hm]; exact hn)
  have HFIN : Hid (∀ v w', w'.ownsRow w.heap.size 99 4 v (jobsTo m C n).length (rowsJ (jobsTo m C n)) → Below w.heap.size w w' → RefJobsPost w (jobsB m C) (.returned v) w') := Lib.hid fun v w' h1 h2 => by
    rw [← HMN.out] at h1
    obtain ⟨A', c', rfl, h3⟩ := Cl.of_own hL h1
    exact ⟨A', c', rfl, h3, h2⟩
  obtain ⟨i0, hi, hz0, hz1, hz2⟩ := info_parts infoRJ
  have HI0 := Lib.hid (And.intro hi (And.intro hz0 (And.intro hz1 hz2)))
  rw [hn] at hll hn16 ⊢
  obtain ⟨JP, hJP⟩ : ∃ Q, RefJobsPost w (jobsB m C) = Q := ⟨_, rfl⟩
  rw [hJP] at HFIN ⊢
  clear h hn hv hd hL hm hJP hi hz0 hz1 hz2
  go_enter Try.func39, Try.ntmps39
  go_wp2_with fail
  go_loopw [5, 6] (fun v i wr => ∃ k : Nat, k ≤ n ∧ i = .int .i64 k ∧ Hid (Below w.heap.size w wr ∧ wr.ownsRow w.heap.size 99 4 v (jobsTo m C k).length (rowsJ (jobsTo m C k)))) (fun _ i _ => n - (intOf i).toNat)
  case atStart => exact ⟨0, Nat.zero_le _, rfl, Lib.hid ⟨Below.refl _ _, World.ownsRow_nil _ _ _ _⟩⟩
  case round =>
    obtain ⟨k, hk, rfl, hs⟩ := hrel
    by_cases hlt : k < n
    · have hki : (k : Int) < (n : Int) := by omega
      have h0k : (0 : Int) ≤ (k : Int) := by omega
      have hlt' : k < l.length := by rw [HN.out]; exact hlt
      obtain ⟨b, off, rfl, hbB, d0, d1, d2, d3⟩ := Sl.at4 HL.out hlt'
      obtain ⟨P, E, S, hP, hE, hS, hp, he, hsz, hP1, hP2, hE2, hS2, D, hCD⟩ := HMS.out k hlt
      obtain ⟨⟨nm, sz, per, dd⟩, hr⟩ : ∃ r, l.getD k msg0 = r := ⟨_, rfl⟩
      have hmk : msgAt l k = ⟨nm, sz, per, dd⟩ := hr
      rw [hr] at d0 d1 d2 d3
      rw [hmk] at hP hE hS
      simp only [msgC] at d0 d1 d2 d3 hP hE hS
      subst hP hE hS
      have HJM : Hid (∀ q, jobM m k q = ⟨k, q * P, q * P + E, S⟩) := Lib.hid fun q => by unfold jobM; rw [hp, he, hsz]
      have HALL : Hid (jobsQ m C k D = jobsTo m C (k + 1)) := Lib.hid (by
        show _ = jobsTo m C k ++ jobsOne m C k
        unfold jobsQ jobsOne
        rw [hp, hCD, Nat.mul_div_cancel_left _ (by omega)])
      have hj16 : (jobsTo m C k).length ≤ 16000 := Nat.le_trans (jobsTo_le m C k) (Nat.le_trans (Nat.mul_le_mul hC (by omega : k ≤ 16)) (by decide))
      have hCD' : C = D * P := by rw [hCD, Nat.mul_comm]
      have hD1 : D ≤ 1000 := by
        have : D * 1 ≤ D * P := Nat.mul_le_mul_left _ hP1
        omega
      have HCD := Lib.hid hCD'
      have HO3 : Hid (wr.ownsRow w.heap.size 99 4 u5 (jobsQ m C k 0).length (rowsJ (jobsQ m C k 0))) := Lib.hid (by rw [jobsQ_zero]; exact hs.out.2)
      have HCW : Hid (∀ w1, Below w.heap.size w w1 → w1.cell? ⟨b, off + k * 4 + 3, none⟩ = some (.int .i64 E) ∧ w1.cell? ⟨b, off + k * 4 + 1, none⟩ = some (.int .i64 S) ∧ w1.cell? ⟨b, off + k * 4 + 2, none⟩ = some (.int .i64 P)) := Lib.hid fun w1 h1 => ⟨(h1.cell (p := ⟨b, off + k * 4 + 3, none⟩) hbB).trans d3, (h1.cell (p := ⟨b, off + k * 4 + 1, none⟩) hbB).trans d1, (h1.cell (p := ⟨b, off + k * 4 + 2, none⟩) hbB).trans d2⟩
      clear hr hmk hp he hsz hCD hCD' d0 d1 d2 d3
      go_wp2_with fail
      go_loopw [5, 7] (fun v i wr => ∃ q : Nat, q ≤ D ∧ i = .int .i64 (q * P : Nat) ∧ Hid (Below w.heap.size w wr ∧ wr.ownsRow w.heap.size 99 4 v (jobsQ m C k q).length (rowsJ (jobsQ m C k q)))) (fun _ i _ => C - (intOf i).toNat)
      case atStart => exact ⟨0, Nat.zero_le _, by rw [Nat.zero_mul]; rfl, Lib.hid ⟨hs.out.1, HO3.out⟩⟩
      case round =>
        clear hs
        obtain ⟨q, hq, rfl, hs⟩ := hrel
        have hjl : (jobsQ m C k q).length ≤ 17000 := by have := jobsQ_len m C k q; omega
        have HSN : Hid (rowsJ (jobsQ m C k (q + 1)) = rowsJ (jobsQ m C k q) ++ [.int .i64 k, .int .i64 (q * P : Nat), .int .i64 ((q * P : Nat) + (E : Int)), .int .i64 S]) := Lib.hid (by rw [jobsQ_succ, rowsJ_snoc, HJM.out, Int.natCast_add])
        by_cases hqd : q < D
        · have hrP : q * P + P ≤ C := by
            have h1 : (q + 1) * P ≤ D * P := Nat.mul_le_mul_right _ hqd
            rw [Nat.add_mul, Nat.one_mul] at h1
            rw [HCD.out]; exact h1
          have HNX : Hid ((q + 1) * P = q * P + P) := Lib.hid (by rw [Nat.add_mul, Nat.one_mul])
          obtain ⟨r, hr⟩ : ∃ r, q * P = r := ⟨_, rfl⟩
          rw [hr] at hrP HSN HNX ⊢
          clear hr
          have hri : (r : Int) < (C : Int) := by omega
          have HWS := Lib.hid hs.out.1.size
          have HWB := Lib.hid hs.out.1
          have HCM : Hid (∀ w1, Below wr.heap.size wr w1 → w1.cell? ⟨b, off + k * 4 + 3, none⟩ = some (.int .i64 E) ∧ w1.cell? ⟨b, off + k * 4 + 1, none⟩ = some (.int .i64 S)) := Lib.hid fun w1 h1 => by
            obtain ⟨g1, g2, _⟩ := HCW.out w1 (HWB.out.trans (h1.mono HWS.out))
            exact ⟨g1, g2⟩
          obtain ⟨len, hlen⟩ : ∃ len, (jobsQ m C k q).length = len := ⟨_, rfl⟩
          have HOWN : Hid (wr.ownsRow w.heap.size 99 4 u5 len (rowsJ (jobsQ m C k q))) := Lib.hid (by rw [← hlen]; exact hs.out.2)
          rw [hlen] at hjl
          have HLEN : Hid ((jobsQ m C k (q + 1)).length = len + 1) := Lib.hid (by rw [← hlen, jobsQ_len, jobsQ_len]; omega)
          clear hlen
          go_wp2_with fail
          refine wp_region_stepsJ (by kernel_rfl) (by kernel_rfl) (fun dn vs w1 => JobJ wr w.heap.size 99 u5 len (rowsJ (jobsQ m C k q)) [.int .i64 k, .int .i64 r, .int .i64 (r + E), .int .i64 S] (dn 16) (dn 17) (dn 18) (vs 16) (vs 17) (vs 18) w1) (fun _ _ _ => True)
            (fun ix u _ _ => match ix with
              | 0 => u = u5
              | 1 => u = .int .i64 k
              | 2 => u = .int .i64 r
              | 3 => u = .int .i64 r
              | 4 => u = .slice (some ⟨b, off, none⟩) n c
              | 5 => u = .int .i64 k
              | 6 => u = .pointer (some ⟨b, off + k * 4, none⟩)
              | 7 => u = .pointer (some ⟨b, off + k * 4 + 3, none⟩)
              | 8 => u = .int .i64 E
              | 9 => u = .int .i64 (r + E)
              | 10 => u = .slice (some ⟨b, off, none⟩) n c
              | 11 => u = .int .i64 k
              | 12 => u = .pointer (some ⟨b, off + k * 4, none⟩)
              | 13 => u = .pointer (some ⟨b, off + k * 4 + 1, none⟩)
              | 14 => u = .int .i64 S
              | 15 => u = .agg #[.int .i64 k, .int .i64 r, .int .i64 (r + E), .int .i64 S]
              | 16 => True
              | 17 => True
              | _ => True) (fun _ => JobJ.start _ _ _ _ _ _ _ _ _ _) (fun _ _ _ _ _ _ _ _ h _ => h) ?_ ?_
          · refine ⟨?_, ?_, ?_, ?_, ?_, ?_, ?_, ?_, ?_, ?_, ?_, ?_, ?_, ?_, ?_, ?_, ?_, ?_, ?_, trivial⟩
            · intro a w1 vs K dn Hd Hb HJ HK HD HN kk
              have e5 := HK 5 (by decide)
              go_simp; exact kk _ _ (by simp) HJ trivial rfl
            · intro a w1 vs K dn Hd Hb HJ HK HD HN kk
              have e6 := HK 6 (by decide)
              go_simp; exact kk _ _ (by simp) HJ trivial rfl
            · intro a w1 vs K dn Hd Hb HJ HK HD HN kk
              have e7 := HK 7 (by decide)
              go_simp; exact kk _ _ (by simp) HJ trivial rfl
            · intro a w1 vs K dn Hd Hb HJ HK HD HN kk
              have e7 := HK 7 (by decide)
              go_simp; exact kk _ _ (by simp) HJ trivial rfl
            · intro a w1 vs K dn Hd Hb HJ HK HD HN kk
              have e0 := HK 0 (by decide)
              go_simp; exact kk _ _ (by simp) HJ trivial rfl
            · intro a w1 vs K dn Hd Hb HJ HK HD HN kk
              have e6 := HK 6 (by decide)
              go_simp; exact kk _ _ (by simp) HJ trivial rfl
            · intro a w1 vs K dn Hd Hb HJ HK HD HN kk
              have e28 := (HD 4 _ 28 rfl rfl rfl).1.trans (HD 4 _ 28 rfl rfl rfl).2
              have e29 := (HD 5 _ 29 rfl rfl rfl).1.trans (HD 5 _ 29 rfl rfl rfl).2
              go_simp; exact kk _ _ (by simp) HJ trivial rfl
            · intro a w1 vs K dn Hd Hb HJ HK HD HN kk
              have e30 := (HD 6 _ 30 rfl rfl rfl).1.trans (HD 6 _ 30 rfl rfl rfl).2
              go_simp; exact kk _ _ (by simp) HJ trivial rfl
            · intro a w1 vs K dn Hd Hb HJ HK HD HN kk
              have e31 := (HD 7 _ 31 rfl rfl rfl).1.trans (HD 7 _ 31 rfl rfl rfl).2
              have d17 : dn 17 = false := by cases hq : dn 17 with | false => rfl | true => exact absurd (Hd 17 hq).2 (by decide)
              have ca := (HCM.out w1 (HJ.1 d17).1).1
              go_simp; exact kk _ _ (by simp) HJ trivial rfl
            · intro a w1 vs K dn Hd Hb HJ HK HD HN kk
              have e27 := (HD 3 _ 27 rfl rfl rfl).1.trans (HD 3 _ 27 rfl rfl rfl).2
              have e32 := (HD 8 _ 32 rfl rfl rfl).1.trans (HD 8 _ 32 rfl rfl rfl).2
              have hws : IntKind.i64.wrap ((r : Int) + (E : Int)) = (r : Int) + (E : Int) := IntWalk.i64_in _ (by omega)
              go_simp; exact kk _ _ (by simp) HJ trivial (by first | rfl | (show Value.int _ _ = Value.int _ _; rw [hws]))
            · intro a w1 vs K dn Hd Hb HJ HK HD HN kk
              have e0 := HK 0 (by decide)
              go_simp; exact kk _ _ (by simp) HJ trivial rfl
            · intro a w1 vs K dn Hd Hb HJ HK HD HN kk
              have e6 := HK 6 (by decide)
              go_simp; exact kk _ _ (by simp) HJ trivial rfl
            · intro a w1 vs K dn Hd Hb HJ HK HD HN kk
              have e34 := (HD 10 _ 34 rfl rfl rfl).1.trans (HD 10 _ 34 rfl rfl rfl).2
              have e35 := (HD 11 _ 35 rfl rfl rfl).1.trans (HD 11 _ 35 rfl rfl rfl).2
              go_simp; exact kk _ _ (by simp) HJ trivial rfl
            · intro a w1 vs K dn Hd Hb HJ HK HD HN kk
              have e36 := (HD 12 _ 36 rfl rfl rfl).1.trans (HD 12 _ 36 rfl rfl rfl).2
              go_simp; exact kk _ _ (by simp) HJ trivial rfl
            · intro a w1 vs K dn Hd Hb HJ HK HD HN kk
              have e37 := (HD 13 _ 37 rfl rfl rfl).1.trans (HD 13 _ 37 rfl rfl rfl).2
              have d17 : dn 17 = false := by cases hq : dn 17 with | false => rfl | true => exact absurd (Hd 17 hq).2 (by decide)
              have ca := (HCM.out w1 (HJ.1 d17).1).2
              go_simp; exact kk _ _ (by simp) HJ trivial rfl
            · intro a w1 vs K dn Hd Hb HJ HK HD HN kk
              have e25 := (HD 1 _ 25 rfl rfl rfl).1.trans (HD 1 _ 25 rfl rfl rfl).2
              have e26 := (HD 2 _ 26 rfl rfl rfl).1.trans (HD 2 _ 26 rfl rfl rfl).2
              have e33 := (HD 9 _ 33 rfl rfl rfl).1.trans (HD 9 _ 33 rfl rfl rfl).2
              have e38 := (HD 14 _ 38 rfl rfl rfl).1.trans (HD 14 _ 38 rfl rfl rfl).2
              go_simp; exact kk _ _ (by simp) HJ trivial rfl
            · intro a w1 vs K dn Hd Hb HJ HK HD HN kk
              have e39 := (HD 15 _ 39 rfl rfl rfl).1.trans (HD 15 _ 39 rfl rfl rfl).2
              have d17 : dn 17 = false := by cases hq : dn 17 with | false => rfl | true => exact absurd (Hd 17 hq).2 (by decide)
              go_simp; exact kk _ _ (by simp) ⟨fun _ => ⟨(HJ.1 d17).1.alloc (HJ.1 d17).1.size _, fun _ => ⟨_, rfl, Bk.new _ _ _⟩⟩, fun h => absurd (show dn 17 = true from h) (by rw [d17]; decide), HJ.2.2⟩ trivial trivial
            · intro a w1 vs K dn Hd Hb HJ HK HD HN kk
              have e24 := (HD 0 _ 24 rfl rfl rfl).1.trans (HD 0 _ 24 rfl rfl rfl).2
              have d17 : dn 17 = false := by cases hq : dn 17 with | false => rfl | true => exact absurd rfl (Hd 17 hq).1
              have d18 : dn 18 = false := by cases hq : dn 18 with | false => rfl | true => exact absurd (Hd 18 hq).2 (by decide)
              have d16 : dn 16 = true := Hb 16 (by decide)
              obtain ⟨hb, h16⟩ := HJ.1 d17
              obtain ⟨g, y1, y2⟩ := h16 d16
              have e40 := (HD 16 _ 40 rfl rfl rfl).1.trans y1
              exact wp_append_own w1 (.tmp 24) (.tmp 40) 72 rfl w.heap.size 99 i0 (.agg #[.int .i64 0, .int .i64 0, .int .i64 0, .int .i64 0]) 4 32 Try.underlying72 HI0.out.1 HI0.out.2.1 HI0.out.2.2.1 HI0.out.2.2.2 rfl (by decide) u5 len _ (by simpa [Act.eval] using e24) (World.ownsRow.of_below HOWN.out hb) ⟨g, 0, none⟩ 1 1 [.int .i64 k, .int .i64 r, .int .i64 (r + E), .int .i64 S] (by simpa [Act.eval] using e40) rfl (fun j u hj => by rw [Addr.add_lit, Nat.zero_add, y2.cell]; simpa using hj) (fun u hu => by simp at hu; rcases hu with rfl | rfl | rfl | rfl <;> rfl) (by unfold maxLen; omega) (by omega) (by have := hb.size; have := HWS.out; omega) fun v' w' hown hg _ =>
                kk _ _ (by simp) ⟨fun h => absurd (show true = false from h) (by decide), fun _ => ⟨w1, hb, hown, hg⟩, fun h => absurd (show dn 18 = true from h) (by rw [d18]; decide)⟩ trivial trivial
            · intro a w1 vs K dn Hd Hb HJ HK HD HN kk
              have e41 := (HD 17 _ 41 rfl rfl rfl).1
              go_simp; exact kk _ _ (by simp) ⟨HJ.1, HJ.2.1, fun _ => rfl⟩ trivial trivial
          · intro vs dn w5 hdn hj _
            obtain ⟨_, hj2, hj3⟩ := hj
            obtain ⟨w0, hb0, hown, hg⟩ := hj2 (hdn 17 (by decide))
            have e18 := hj3 (hdn 18 (by decide))
            obtain ⟨v', hv'⟩ : ∃ v', vs 17 = v' := ⟨_, rfl⟩
            rw [hv'] at hown e18
            have hb1 : Below w.heap.size w w0 := HWB.out.trans (hb0.mono HWS.out)
            have HB2 : Hid (Below w.heap.size w w5) := Lib.hid (hb1.grown hg hb1.size fun g hg' => ((World.ownsRow.of_below HOWN.out hb0).lt g hg').1)
            have HO2 : Hid (w5.ownsRow w.heap.size 99 4 v' (len + 1) (rowsJ (jobsQ m C k (q + 1)))) := Lib.hid (by rw [HSN.out]; exact hown)
            have f2 := (HCW.out w5 HB2.out).2.2
            clear hg hown hdn hj2 hj3 hb0 hb1 hv'
            simp only [putAll, Act.put, List.setIfInBounds_toArray, List.set_cons_zero, List.set_cons_succ]
            rw [e18]
            clear e18
            go_wp2_with fail
            go_roundw
            case rel => exact ⟨q + 1, by omega, by rw [HNX.out]; go_num, Lib.hid (by rw [HLEN.out]; exact ⟨HB2.out, HO2.out⟩)⟩
            case measure => simp [intOf]; omega
        · obtain rfl : q = D := by omega
          have hCq := HCD.out
          rw [← hCq]
          go_wp2_with fail
          go_roundw
          case rel => first | exact ⟨k + 1, by omega, by go_num, Lib.hid (by rw [← HALL.out]; exact ⟨hs.out.1, hs.out.2⟩)⟩ | ((repeat apply Exists.intro); exact ⟨⟨k + 1, by omega, by go_num, Lib.hid (by rw [← HALL.out]; exact ⟨hs.out.1, hs.out.2⟩)⟩, rfl⟩)
          case measure => simp [intOf]; omega
    · obtain rfl : k = n := by omega
      go_wp2_with fail
      exact HFIN.out _ _ hs.out.2 hs.out.1
end Go.Proofs.Ytnmccbjdfdbgpaa
/- What is proved: what a schedule is; facts on the jobs of a cycle. Conditions: those that each lemma states. -/
namespace Go.Proofs.Ytnmccbjdfdbgpaa
open Go.RowKit

def schedB (l : List MsgD) : List Int × (Nat × Nat) × Int :=
  if ¬ (cycleB l).2 = 0 then ([], (0, 0), (cycleB l).2)
  else match overB (jobsB (msgN l) (cycleN l)) (cycleN l) 1 with
    | some p => ([], p, 7)
    | none => (tableB (jobsB (msgN l) (cycleN l)) (cycleN l), (0, 0), 0)
structure CycOk (l : List MsgD) (C : Nat) (L : List JobD) : Prop where
  valid : validB l = true
  least : 1 ≤ C
  great : C ≤ 1000
  div : ∀ i, i < l.length → perN l i ∣ C
  len : L.length ≤ 256
  some : 0 < L.length
  ok : JobsOk L C
  left : ∀ i, i < L.length → (JobD.at_ L i).left ≤ 1000
  msg : ∀ i, i < L.length → (JobD.at_ L i).msg < l.length
theorem cycle_ok {l : List MsgD} (h : (cycleB l).2 = 0) : (cycleB l).1 = cycleN l ∧ CycOk l (cycleN l) (jobsB (msgN l) (cycleN l)) := by
  unfold cycleB at h
  by_cases hv : validB l = false
  · rw [if_pos hv] at h; cases h
  · rw [if_neg hv] at h
    by_cases h1 : 1000 < cycleN l
    · rw [if_pos h1] at h; cases h
    · rw [if_neg h1] at h
      by_cases h2 : 256 < cntJ (perN l) (cycleN l) l.length
      · rw [if_pos h2] at h; cases h
      · have hv' : validB l = true := by simpa using hv
        have hm := fun k hk => validB_msg hv' (k := k) hk
        have hlen := validB_len hv'
        have hpos : ∀ i, i < l.length → 0 < perN l i := fun i hi => by have := hm i hi; unfold perN; omega
        have hdiv : ∀ i, i < l.length → perN l i ∣ cycleN l := (lcmK_dvd l.length).1 (Nat.dvd_refl _)
        have hC : 1 ≤ cycleN l := lcmK_pos hpos
        have hok : MsgOk (msgN l) (cycleN l) := ⟨fun i hi => by
          have := hm i hi
          show 1 ≤ (msgAt l i).size.toNat ∧ (msgAt l i).size.toNat ≤ (msgAt l i).dead.toNat ∧ (msgAt l i).dead.toNat ≤ (msgAt l i).per.toNat
          omega, hdiv⟩
        have hat : ∀ j, j < (jobsB (msgN l) (cycleN l)).length → ∃ i r, i < l.length ∧ JobD.at_ (jobsB (msgN l) (cycleN l)) j = jobM (msgN l) i r := fun j hj => by
          obtain ⟨i, r, h3, h4, rfl⟩ := jobs_form hj
          exact ⟨i, r, h3, (jobs_at (m := msgN l) h4 h3).2⟩
        refine ⟨by unfold cycleB; rw [if_neg hv, if_neg h1, if_neg h2], hv', hC, by omega, hdiv, ?_, ?_, jobs_ok hok, fun j hj => ?_, fun j hj => ?_⟩
        · rw [show (jobsB (msgN l) (cycleN l)).length = cntJ (perN l) (cycleN l) l.length from jobsTo_cnt _ _ _]; omega
        · have h3 := jobsTo_len (msgN l) (cycleN l) 0
          have h4 := jobsTo_mono (m := msgN l) (cycle := cycleN l) (i := 1) (k := l.length) hlen.1
          have h5 : 0 < cycleN l / (msgN l).per 0 := Nat.div_pos (Nat.le_of_dvd (by omega) (hdiv 0 (by omega))) (hpos 0 (by omega))
          have h6 : 0 < (jobsTo (msgN l) (cycleN l) 1).length := by rw [h3]; exact Nat.lt_of_lt_of_le h5 (Nat.le_add_left _ _)
          exact Nat.lt_of_lt_of_le h6 h4
        · obtain ⟨i, r, h3, h4⟩ := hat j hj
          rw [h4]
          have := hm i h3
          show (msgAt l i).size.toNat ≤ 1000
          omega
        · obtain ⟨i, r, h3, h4⟩ := hat j hj
          rw [h4]; exact h3
section
variable {P : Program}
theorem results_tct {fn : Func} {u p v : Tmp} {ty : TypeId} (h : fn.results = #[.tmp u, .cell p ty, .tmp v]) (tmps : Array Value) (w : World) (g : Nat) (t : TypeId) (cs : Array Value) (d : TypeDesc)
    (hp : tmps.getD p undef = .pointer (some ⟨g, 0, none⟩)) (hg : Bk w g t cs)
    (hu : P.underlying ty = some d) (hd : (match d with | .struct _ | .array _ _ => true | _ => false) = true) (hi : (P.info? ty).map (·.size) = some cs.size) :
    (results fn tmps).run P w = .ok (.tuple #[tmps.getD u undef, .agg cs, tmps.getD v undef]) w := by
  have hl := run_loadVar_at (P := P) w g 0 ty cs d (fun j v hj => by rw [Nat.zero_add, hg.cell]; exact hj) hu hd hi
  have hp' : tmps[p]?.getD undef = .pointer (some ⟨g, 0, none⟩) := by simpa using hp
  simp [results, h, hp', asAddr, hl]
end
def SchPost (w : World) (l : List MsgD) (e : Ending) (w' : World) : Prop :=
  ∃ A c T p er, schedB l = (T, p, er) ∧ e = .returned (.tuple #[.slice A T.length c, .agg #[.int .i64 (p.1 : Nat), .int .i64 (p.2 : Nat)], .int .i64 er]) ∧ Cl w' w.heap.size 3 1 A T.length (fun i _ => .int .i64 (getI T i)) ∧ Below w.heap.size w w'
end Go.Proofs.Ytnmccbjdfdbgpaa
/- What is proved: a contract of the document's Schedule. Conditions: the messages lie in memory. -/
namespace Go.Proofs.Ytnmccbjdfdbgpaa
open Go.RowKit

/-- The jobs' cells, of which so much is left. -/
def JobsCur (w : World) (g : Nat) (L : List JobD) (Lf : Nat → Nat) : Prop := ∃ cur, Bk w g 99 cur ∧ ∀ i, i < L.length → ∀ j, j < 4 → cur[i * 4 + j]? = some (jobC (curJ L Lf i) j)
theorem JobsCur.sl {w : World} {g : Nat} {L : List JobD} {Lf : Nat → Nat} (h : JobsCur w g L Lf) (hn : L.length ≤ 4096) : Sl w w.heap.size 4 (some ⟨g, 0, none⟩) L.length (fun i => jobC (curJ L Lf i)) := by
  obtain ⟨cur, h1, h2⟩ := h
  exact ⟨by omega, fun _ => ⟨g, 0, rfl, h1.lt, fun i hi j hj => by rw [Nat.zero_add, h1.cell]; exact h2 i hi j hj⟩⟩
theorem JobsCur.below {w w' : World} {g : Nat} {L : List JobD} {Lf : Nat → Nat} (h : JobsCur w g L Lf) (hb : Below w.heap.size w w') : JobsCur w' g L Lf := by
  obtain ⟨cur, h1, h2⟩ := h
  exact ⟨cur, h1.below hb h1.lt, h2⟩
theorem JobsCur.kt {w w' : World} {g : Nat} {t : TypeId} {L : List JobD} {Lf : Nat → Nat} (h : JobsCur w g L Lf) (hk : KT t w w') (ht : 99 ≠ t) : JobsCur w' g L Lf := by
  obtain ⟨cur, h1, h2⟩ := h
  exact ⟨cur, hk.2 _ _ _ ht h1, h2⟩
theorem JobsCur.less {w : World} {g b : Nat} {L : List JobD} {Lf : Nat → Nat} (h : JobsCur w g L Lf) (v : Int) (hv : v = (Lf b : Nat) - 1) (hp : 0 < Lf b) (hb : b < L.length) : JobsCur (w.setCell ⟨g, b * 4 + 3, none⟩ (.int .i64 v)) g L (lessB Lf (some b)) := by
  obtain ⟨cur, h1, h2⟩ := h
  refine ⟨_, h1.set (b * 4 + 3) (.int .i64 v), fun i hi j hj => ?_⟩
  rw [Array.getElem?_setIfInBounds]
  by_cases e : b * 4 + 3 = i * 4 + j
  · obtain ⟨rfl, rfl⟩ : i = b ∧ j = 3 := by omega
    have hsz : i * 4 + 3 < cur.size := by
      have := h2 i hi 3 (by omega)
      rcases Nat.lt_or_ge (i * 4 + 3) cur.size with h | h
      · exact h
      · rw [Array.getElem?_eq_none h] at this; cases this
    rw [if_pos rfl, if_pos hsz]
    show some (Value.int .i64 v) = some (Value.int .i64 ((if i = i then Lf i - 1 else Lf i : Nat)))
    rw [if_pos rfl, hv]
    congr 2; omega
  · rw [if_neg e, h2 i hi j hj]
    match j, hj with
    | 0, _ => rfl
    | 1, _ => rfl
    | 2, _ => rfl
    | 3, _ =>
      have hne : ¬ i = b := by omega
      show some (Value.int .i64 (Lf i : Nat)) = some (Value.int .i64 ((if i = b then Lf i - 1 else Lf i : Nat)))
      rw [if_neg hne]

theorem KT.only {t : TypeId} {w w' : World} {g : Nat} {cs : Array Value} (h : Only g w w') (hg : Bk w g t cs) : KT t w w' := ⟨by rw [h.size]; exact Nat.le_refl _, fun b t' cs' ht hb => hb.only h (Bk.neT hb hg ht)⟩
theorem ownsKt {t T : TypeId} {w w' : World} {B k n : Nat} {v : Value} {xs : List Value} (h : w.ownsRow B T k v n xs) (hk : KT t w w') (hne : T ≠ t) : w'.ownsRow B T k v n xs := by
  refine ⟨h.1, ?_⟩
  rcases h.2 with h1 | ⟨g, cap, cur, e, h2, h3, h4, h5, h6, h7⟩
  · exact Or.inl h1
  · exact Or.inr ⟨g, cap, cur, e, h2, hk.2 _ _ _ hne h3, h4, h5, h6, h7⟩
theorem left_le {L : List JobD} {i : Nat} : ∀ t, leftB L t i ≤ (JobD.at_ L i).left
  | 0 => Nat.le_refl _
  | t + 1 => by
    have h := left_le (L := L) (i := i) t
    rw [leftB_succ]
    cases servB L t with
    | none => exact h
    | some b =>
      show (if i = b then leftB L t i - 1 else leftB L t i) ≤ _
      split <;> omega
theorem Cl.kt {t T : TypeId} {w w' : World} {B k n : Nat} {A : Option Addr} {f : Nat → Nat → Value} (h : Cl w B T k A n f) (hk : KT t w w') (hne : T ≠ t) : Cl w' B T k A n f :=
  ⟨h.1, fun hn => by obtain ⟨g, cur, e, h1, h2, h3⟩ := h.2 hn; exact ⟨g, cur, e, h1, hk.2 _ _ _ hne h2, h3⟩⟩
def tabK (L : List JobD) (q : Nat) : List Value := (List.range q).map fun t => Value.int .i64 (cellB L t)
theorem tabK_succ (L : List JobD) (q : Nat) : tabK L (q + 1) = tabK L q ++ [.int .i64 (cellB L q)] := by
  unfold tabK; rw [List.range_succ, List.map_append]; rfl
theorem tabK_rows (L : List JobD) (C : Nat) : tabK L C = rowsL C 1 fun i _ => .int .i64 (getI (tableB L C) i) := by
  unfold tabK rowsL
  rw [Nat.mul_one]
  apply List.map_congr_left
  intro i hi
  have hi' := List.mem_range.1 hi
  rw [Nat.div_one]
  unfold getI tableB
  simp [List.getD_eq_getElem?_getD, hi']
theorem results_f22 (tmps : Array Value) (w : World) (g : Nat) (cs : Array Value) (x y : Value) (hx : tmps.getD 2 undef = x) (hy : tmps.getD 4 undef = y) (hp : tmps.getD 3 undef = .pointer (some ⟨g, 0, none⟩)) (hg : Bk w g 23 cs) (h2 : cs.size = 2) :
    (results Try.f22 tmps).run Try.prog w = .ok (.tuple #[x, .agg cs, y]) w := by
  rw [← hx, ← hy]
  exact results_tct rfl tmps w g _ cs _ hp hg und2 rfl (by rw [h2]; exact info2)
set_option maxRecDepth 100000 in
set_option maxHeartbeats 16000000 in
theorem refSchedule_any (w : World) (A : Option Addr) (c : Nat) (l : List MsgD) (h : MsgsAt w w.heap.size A l) :
    Calls Try.prog 22 #[.slice A l.length c] w (SchPost w l) := by
  have HL := Lib.hid h
  have hll := h.1
  obtain ⟨W0, hW0⟩ : ∃ W0, w.alloc (.cells #[.int .i64 0, .int .i64 0] 23) = W0 := ⟨_, rfl⟩
  have HB0 : Hid (Below w.heap.size w W0) := Lib.hid (by rw [← hW0]; exact (Below.refl _ w).alloc (Nat.le_refl _) _)
  have HR0 : Hid (Bk W0 w.heap.size 23 #[.int .i64 0, .int .i64 0]) := Lib.hid (by rw [← hW0]; exact Bk.new _ _ _)
  have HML := Lib.hid (Sl.mono (Sl.below HL.out HB0.out) HB0.out.size : MsgsAt W0 W0.heap.size A l)
  have HCY := Lib.hid (refCycle_any W0 A c l HML.out)
  have hsz0 : w.heap.size < W0.heap.size := HR0.out.lt
  obtain ⟨n, hn⟩ : ∃ n, l.length = n := ⟨_, rfl⟩
  have HN := Lib.hid hn
  obtain ⟨er, her⟩ : ∃ er, (cycleB l).2 = er := ⟨_, rfl⟩
  obtain ⟨C0, hC0⟩ : ∃ C0, (cycleB l).1 = C0 := ⟨_, rfl⟩
  have HFIN : Hid (∀ A' c' (T : List Int) p er' len (a b : Int) w', schedB l = (T, p, er') → T.length = len → a = (p.1 : Nat) → b = (p.2 : Nat) → Cl w' w.heap.size 3 1 A' len (fun i _ => .int .i64 (getI T i)) → Below w.heap.size w w' → SchPost w l (.returned (.tuple #[.slice A' len c', .agg #[.int .i64 a, .int .i64 b], .int .i64 er'])) w') := Lib.hid fun A' c' T p er' len a b w' h1 h2 h3 h4 h5 h6 => by
    subst h2 h3 h4
    exact ⟨A', c', T, p, er', h1, rfl, h5, h6⟩
  have HSB : Hid (schedB l = if ¬ (cycleB l).2 = 0 then ([], (0, 0), (cycleB l).2)
      else match overB (jobsB (msgN l) (cycleN l)) (cycleN l) 1 with
      | some p => ([], p, 7)
      | none => (tableB (jobsB (msgN l) (cycleN l)) (cycleN l), (0, 0), 0)) := Lib.hid rfl
  have HOK := Lib.hid (cycle_ok (l := l))
  have HRJ := Lib.hid fun (w1 : World) (h1 : MsgsAt w1 w1.heap.size A l) (hk : CycOk l (cycleN l) (jobsB (msgN l) (cycleN l))) => refJobs_any w1 A c l (cycleN l) h1 hk.valid hk.great hk.div (by have := hk.len; omega)
  obtain ⟨i0, hi, hz0, hz1, hz2⟩ := info_parts infoI
  rw [her] at HSB HOK HCY
  rw [hC0] at HOK HCY
  rw [hn] at hll HCY ⊢
  obtain ⟨JP, hJP⟩ : ∃ Q, SchPost w l = Q := ⟨_, rfl⟩
  rw [hJP] at HFIN ⊢
  clear h hn her hC0 hJP
  go_enter Try.func22, Try.ntmps22
  go_wp2_with fail
  refine HCY.out.mono ?_
  rintro e w1 ⟨rfl, hb1⟩
  have HB1 := Lib.hid hb1
  have HBW1 := Lib.hid (HB0.out.trans (hb1.mono HB0.out.size))
  have HR1 := Lib.hid (HR0.out.below hb1 HR0.out.lt)
  clear hb1 hW0
  by_cases he : er = 0
  case neg =>
    have HS : Hid (schedB l = ([], (0, 0), er)) := Lib.hid (by rw [HSB.out, if_pos he])
    have r0 : w1.cell? ⟨w.heap.size, 0, none⟩ = some (.int .i64 0) := HR1.out.cell 0
    have r1 : w1.cell? ⟨w.heap.size, 1, none⟩ = some (.int .i64 0) := HR1.out.cell 1
    have rf := HR1.out.free
    go_wp2_with fail
    refine bodyPost_ret (v := .tuple #[.slice none 0 0, .agg #[.int .i64 0, .int .i64 0], .int .i64 er]) ?_ rfl (HFIN.out none 0 [] (0, 0) er 0 0 0 _ HS.out rfl rfl rfl (Cl.nil _ _ _ _ _ _) ?_)
    · exact results_f22 _ _ w.heap.size #[.int .i64 0, .int .i64 0] _ _ rfl rfl rfl ((HR1.out.set 0 _).set 1 _) rfl
    · exact ((HBW1.out.setCell (p := ⟨w.heap.size, 0, none⟩) (by simp) _).setCell (p := ⟨w.heap.size, 1, none⟩) (by simp) _)
  case pos =>
    subst he
    obtain ⟨hCe, hcyc⟩ := HOK.out rfl
    have HJ1 := Lib.hid (HRJ.out w1 (Sl.mono (Sl.below HL.out HBW1.out) HBW1.out.size) hcyc)
    obtain ⟨C, hC⟩ : ∃ C, cycleN l = C := ⟨_, rfl⟩
    rw [hC] at hCe hcyc HJ1 HSB
    subst hCe
    obtain ⟨L, hLL⟩ : ∃ L, jobsB (msgN l) C = L := ⟨_, rfl⟩
    rw [hLL] at hcyc HJ1 HSB
    have HCYC := Lib.hid hcyc
    have hC1 := hcyc.least
    have hC2 := hcyc.great
    have hLn := hcyc.len
    have hL0 := hcyc.some
    obtain ⟨nj, hnj⟩ : ∃ nj, L.length = nj := ⟨_, rfl⟩
    have HNJ := Lib.hid hnj
    unfold RefJobsPost at HJ1
    rw [hnj] at HJ1 hLn hL0
    rw [HN.out] at HJ1
    clear hcyc hC hLL hnj HRJ HOK
    go_wp2_with fail
    refine HJ1.out.mono ?_
    rintro e w2 ⟨A2, c2, rfl, hcl, hb2⟩
    have HBW2 := Lib.hid (HBW1.out.trans (hb2.mono HBW1.out.size))
    have HR2 := Lib.hid (HR1.out.below hb2 HR1.out.lt)
    obtain ⟨g, cur, rfl, hg, hbk, hcc⟩ := hcl.2 hL0
    have hgw : w.heap.size < g := Nat.lt_of_lt_of_le HR1.out.lt hg
    have HJC : Hid (JobsCur w2 g L (fun i => (JobD.at_ L i).left)) := Lib.hid ⟨cur, hbk, fun i hi j hj => by rw [HNJ.out] at hi; exact hcc i hi j hj⟩
    clear hcl hg hbk hcc hb2
    have HDM : Hid (∀ w3, Below w2.heap.size w2 w3 → ∀ a b : Nat, Calls Try.prog 38 #[.slice (some ⟨g, 0, none⟩) nj c2, .int .i64 a, .int .i64 b] w3 fun e w' => e = .returned (.int .i64 (demandB L a b : Nat)) ∧ Below w3.heap.size w3 w') := Lib.hid fun w3 h3 a b => by
      have h4 := demand_any w3 (some ⟨g, 0, none⟩) c2 L a b ((HJC.out.below h3).sl (by rw [HNJ.out]; omega)) HCYC.out.left (by rw [HNJ.out]; omega)
      rw [HNJ.out] at h4
      exact h4
    go_wp2_with fail
    go_loopw [8] (fun i wr => ∃ b : Nat, 1 ≤ b ∧ b ≤ C + 1 ∧ i = .int .i64 b ∧ Hid (Below w2.heap.size w2 wr ∧ overB L C 1 = overB L (C + 1 - b) b)) (fun i _ => C + 1 - (intOf i).toNat)
    case atStart => exact ⟨1, Nat.le_refl _, by omega, rfl, Lib.hid ⟨Below.refl _ _, rfl⟩⟩
    case round =>
      obtain ⟨b, hb1, hb2, rfl, hs⟩ := hrel
      by_cases hbc : b ≤ C
      · have hbi : (b : Int) ≤ (C : Int) := by omega
        go_wp2_with fail
        go_loopw [9] (fun i wr => ∃ a : Nat, a ≤ b ∧ i = .int .i64 ((a : Int) - 1) ∧ Hid (Below w2.heap.size w2 wr ∧ overA L b b = overA L b a)) (fun i _ => (intOf i + 1).toNat)
        case atStart => exact ⟨b, Nat.le_refl _, rfl, Lib.hid ⟨hs.out.1, rfl⟩⟩
        case round =>
          obtain ⟨a, ha, rfl, h3⟩ := hrel
          rcases Nat.eq_zero_or_pos a with h0 | h0
          · subst h0
            have HOV : Hid (overB L C 1 = overB L (C + 1 - (b + 1)) (b + 1)) := Lib.hid (by
              rw [hs.out.2, show C + 1 - b = (C + 1 - (b + 1)) + 1 from by omega]
              show (match overA L b b with | some a => some (a, b) | none => overB L (C + 1 - (b + 1)) (b + 1)) = _
              rw [h3.out.2]
              rfl)
            have hneg : ¬ (0 : Int) ≤ ((0 : Nat) : Int) - 1 := by omega
            go_wp2_with fail
            go_roundw
            case rel => first | exact ⟨b + 1, by omega, by omega, by go_num, Lib.hid ⟨h3.out.1, HOV.out⟩⟩ | ((repeat apply Exists.intro); exact ⟨⟨b + 1, by omega, by omega, by go_num, Lib.hid ⟨h3.out.1, HOV.out⟩⟩, rfl⟩)
            case measure => simp [intOf]; omega
          · obtain ⟨a', rfl⟩ : ∃ a', a = a' + 1 := ⟨a - 1, by omega⟩
            have hia : ((a' + 1 : Nat) : Int) - 1 = (a' : Int) := by omega
            rw [hia]
            clear hia
            have h0a : (0 : Int) ≤ (a' : Int) := by omega
            have hoa : overA L b (a' + 1) = if b - a' < demandB L a' b then some a' else overA L b a' := rfl
            have hdle := demandK_le HCYC.out.left a' b L.length (Nat.le_refl _)
            have HDA := Lib.hid (HDM.out wr h3.out.1 a' b)
            obtain ⟨dm, hdm⟩ : ∃ dm, demandB L a' b = dm := ⟨_, rfl⟩
            have hdle' : dm ≤ 256000 := by
              rw [← hdm]; unfold demandB
              have := HNJ.out; omega
            rw [hdm] at hoa HDA
            have HOA := Lib.hid hoa
            clear hoa hdle hdm
            go_wp2_with fail
            refine HDA.out.mono ?_
            rintro e w3 ⟨rfl, hb3⟩
            have HB3 := Lib.hid (h3.out.1.trans (hb3.mono h3.out.1.size))
            have HBW3 := Lib.hid (HBW2.out.trans (HB3.out.mono HBW2.out.size))
            have HR3 := Lib.hid (HR2.out.below HB3.out HR2.out.lt)
            clear hb3
            by_cases hbig : b - a' < dm
            · have hbi' : (b : Int) - (a' : Int) < (dm : Int) := by omega
              have HPE : Hid (schedB l = ([], (a', b), 7)) := Lib.hid (by
                have h4 : overA L b b = some a' := by rw [h3.out.2, HOA.out, if_pos hbig]
                have h5 : overB L C 1 = some (a', b) := by
                  rw [hs.out.2, show C + 1 - b = (C + 1 - (b + 1)) + 1 from by omega]
                  show (match overA L b b with | some a => some (a, b) | none => overB L (C + 1 - (b + 1)) (b + 1)) = _
                  rw [h4]
                rw [HSB.out, if_neg (by simp), h5])
              have r0 : w3.cell? ⟨w.heap.size, 0, none⟩ = some (.int .i64 0) := HR3.out.cell 0
              have r1 : w3.cell? ⟨w.heap.size, 1, none⟩ = some (.int .i64 0) := HR3.out.cell 1
              have rf := HR3.out.free
              go_wp2_with fail
              refine bodyPost_ret (v := .tuple #[.slice none 0 0, .agg #[.int .i64 a', .int .i64 b], .int .i64 7]) ?_ rfl (HFIN.out none 0 [] (a', b) 7 0 a' b _ HPE.out rfl rfl rfl (Cl.nil _ _ _ _ _ _) ?_)
              · exact results_f22 _ _ w.heap.size #[.int .i64 a', .int .i64 b] _ _ rfl rfl rfl ((HR3.out.set 0 _).set 1 _) rfl
              · exact ((HBW3.out.setCell (p := ⟨w.heap.size, 0, none⟩) (by simp) _).setCell (p := ⟨w.heap.size, 1, none⟩) (by simp) _)
            · have hbi' : ¬ (b : Int) - (a' : Int) < (dm : Int) := by omega
              go_wp2_with fail
              go_roundw
              case rel => exact ⟨a', by omega, rfl, Lib.hid ⟨HB3.out, by rw [h3.out.2, HOA.out, if_neg hbig]⟩⟩
              case measure => simp [intOf] <;> omega
      · obtain rfl : b = C + 1 := by omega
        have HS : Hid (schedB l = (tableB L C, (0, 0), 0)) := Lib.hid (by
          have h5 := hs.out.2
          rw [Nat.sub_self] at h5
          rw [HSB.out, if_neg (by simp), h5]; rfl)
        have hbi : ¬ ((C + 1 : Nat) : Int) ≤ (C : Int) := by omega
        have HBWr := Lib.hid (HBW2.out.trans (hs.out.1.mono HBW2.out.size))
        have HRr := Lib.hid (HR2.out.below hs.out.1 HR2.out.lt)
        have HJr := Lib.hid (HJC.out.below hs.out.1)
        have HTL : Hid ((tableB L C).length = C) := Lib.hid (by simp [tableB])
        obtain ⟨ii, hii, hy0, hy1, hy2⟩ := info_parts infoI
        go_wp2_with fail
        go_loopw [10, 11] (fun v t wr => ∃ q : Nat, q ≤ C ∧ t = .int .i64 q ∧ Hid (Below w.heap.size w wr ∧ Bk wr w.heap.size 23 #[.int .i64 0, .int .i64 0] ∧ JobsCur wr g L (leftB L q) ∧ wr.ownsRow w.heap.size 3 1 v q (tabK L q))) (fun _ t _ => C - (intOf t).toNat)
        case atStart => exact ⟨0, Nat.zero_le _, rfl, Lib.hid ⟨HBWr.out, HRr.out, HJr.out, World.ownsRow_nil _ _ _ _⟩⟩
        case round =>
          obtain ⟨q, hq, rfl, h4⟩ := hrel
          by_cases hlt : q < C
          · have hqi : (q : Int) < (C : Int) := by omega
            have HNX : Hid (Calls Try.prog 55 #[.slice (some ⟨g, 0, none⟩) nj c2, .int .i64 q] wr fun e w' => e = .returned (.int .i64 (optI (servB L q))) ∧ Below wr.heap.size wr w') := Lib.hid (by
              have h5 := next_any wr (some ⟨g, 0, none⟩) c2 L (leftB L q) q (h4.out.2.2.1.sl (by rw [HNJ.out]; omega)) (by rw [HNJ.out]; omega)
              rw [HNJ.out] at h5
              exact h5)
            have hls : leftB L (q + 1) = lessB (leftB L q) (servB L q) := rfl
            have hce : cellB L q = match servB L q with
              | none => -1
              | some b => ((JobD.at_ L b).msg : Int) := rfl
            have HSV := Lib.hid fun b (h : servB L q = some b) => bestK_some (k := L.length) h
            obtain ⟨sv, hsv⟩ : ∃ sv, servB L q = sv := ⟨_, rfl⟩
            rw [hsv] at HNX hls hce HSV
            have HLS := Lib.hid hls
            have HTK : Hid (tabK L (q + 1) = tabK L q ++ [.int .i64 (cellB L q)]) := Lib.hid (tabK_succ L q)
            rw [hce] at HTK
            clear hls hce hsv
            go_wp2_with fail
            refine HNX.out.mono ?_
            rintro e w3 ⟨rfl, hb3⟩
            have HB3 := Lib.hid (h4.out.1.trans (hb3.mono h4.out.1.size))
            have HR3 := Lib.hid (h4.out.2.1.below hb3 h4.out.2.1.lt)
            have HJ3 := Lib.hid (h4.out.2.2.1.below hb3)
            have HO3 := Lib.hid (World.ownsRow.of_below h4.out.2.2.2 hb3)
            have hsz3 := HB3.out.size
            clear hb3
            cases sv with
            | none =>
              have hown := HO3.out
              have hneg : (-1 : Int) < 0 := by decide
              simp only [optI]
              go_wp2_with (at_builtin; refine wpList_append_own _ rfl _ _ 36 rfl w.heap.size 3 ii (.int .i64 0) 1 8 Try.underlying36 hii hy0 hy1 hy2 rfl (by decide) _ _ _ rfl (hown.alloc _) ⟨w3.heap.size, 0, none⟩ 1 1 [.int .i64 (-1)] rfl rfl ?qc2 ?qc3 ?qc4 ?qc5 ?qc6 ?_)
              case qc3 => first | rfl | (intro u hu; simp at hu; subst hu; rfl)
              case qc4 => unfold maxLen; omega
              case qc5 => omega
              case qc6 => first | omega | (simp; omega)
              intro v' w5 hown' hgrow _
              have hkt := KT.grown (hown.alloc (.cells #[.int .i64 (-1)] 3)) hgrow
              have HR5 := Lib.hid (hkt.2 _ _ _ (by decide) (HR3.out.alloc _))
              have HJ5 : Hid (JobsCur w5 g L (leftB L (q + 1))) := Lib.hid (by
                rw [HLS.out]
                exact ((HJ3.out.below ((Below.refl _ w3).alloc (Nat.le_refl _) _)).kt hkt (by decide)))
              have HB5 : Hid (Below w.heap.size w w5) := Lib.hid (by
                have h1 := HB3.out.trans (((Below.refl _ w3).alloc (Nat.le_refl _) (.cells #[.int .i64 (-1)] 3)).mono HB3.out.size)
                exact h1.grown hgrow h1.size fun g hg' => ((hown.alloc (.cells #[] 0)).lt g hg').1)
              have HO5 : Hid (w5.ownsRow w.heap.size 3 1 v' (q + 1) (tabK L (q + 1))) := Lib.hid (by rw [HTK.out]; exact hown')
              clear hown' hgrow hkt hown
              go_wp2_with fail
              go_roundw
              case rel => exact ⟨q + 1, by omega, by go_num, Lib.hid ⟨HB5.out, HR5.out, HJ5.out, HO5.out⟩⟩
              case measure => simp [intOf]; omega
            | some b =>
              obtain ⟨hbL, hwt, _⟩ := HSV.out b rfl
              have hbn : b < nj := by rw [← HNJ.out]; exact hbL
              have hlf0 : 0 < leftB L q b := by unfold waitB at hwt; simp at hwt; exact hwt.2
              obtain ⟨cur, hbk, hcc⟩ := HJ3.out
              obtain ⟨lf, hlf⟩ : ∃ lf, leftB L q b = lf := ⟨_, rfl⟩
              have hlle : lf ≤ 1000 := by
                rw [← hlf]
                have h6 := left_le (L := L) (i := b) q
                have h7 := HCYC.out.left b hbL
                omega
              have e3 : w3.cell? ⟨g, b * 4 + 3, none⟩ = some (.int .i64 lf) := by rw [hbk.cell, hcc b hbL 3 (by omega)]; show some (Value.int .i64 (leftB L q b : Nat)) = _; rw [hlf]
              have ef := hbk.free (b * 4 + 3)
              obtain ⟨ms, hms⟩ : ∃ ms, (JobD.at_ L b).msg = ms := ⟨_, rfl⟩
              obtain ⟨w4, hw4⟩ : ∃ w4, w3.setCell ⟨g, b * 4 + 3, none⟩ (.int .i64 ((lf : Int) - 1)) = w4 := ⟨_, rfl⟩
              have HJ4 : Hid (JobsCur w4 g L (leftB L (q + 1))) := Lib.hid (by
                rw [HLS.out, ← hw4]
                exact HJ3.out.less _ (by rw [hlf]) hlf0 hbL)
              have honly : Only g w3 w4 := by rw [← hw4]; exact Only.setCell _ _ _ _
              have hkt4 := KT.only honly hbk
              have HR4 := Lib.hid (hkt4.2 _ _ _ (by decide) HR3.out)
              have HO4 := Lib.hid (ownsKt HO3.out hkt4 (by decide))
              have HB4 : Hid (Below w.heap.size w w4) := Lib.hid (by rw [← hw4]; exact HB3.out.setCell (p := ⟨g, b * 4 + 3, none⟩) (by simp; omega) _)
              have e4 : w4.cell? ⟨g, b * 4, none⟩ = some (.int .i64 ms) := by
                obtain ⟨cur', hbk', hcc'⟩ := HJ4.out
                have := hcc' b hbL 0 (by omega)
                rw [Nat.add_zero] at this
                rw [hbk'.cell, this]
                show some (Value.int .i64 ((JobD.at_ L b).msg : Nat)) = _
                rw [hms]
              have hsz4 := HB4.out.size
              have hbi : (b : Int) < (nj : Int) := by omega
              have h0b : (0 : Int) ≤ (b : Int) := by omega
              have hneg : ¬ (b : Int) < 0 := by omega
              have HTK2 : Hid (tabK L (q + 1) = tabK L q ++ [.int .i64 ms]) := Lib.hid (by rw [HTK.out]; simp only [hms])
              have hown := HO4.out
              simp only [optI]
              clear hbk hcc hlf hms honly hkt4 hwt hlf0
              go_upto_region 21 with (fail)
              clear hw4 e3 ef
              go_wp2_with (at_builtin; refine wpList_append_own _ rfl _ _ 36 rfl w.heap.size 3 ii (.int .i64 0) 1 8 Try.underlying36 hii hy0 hy1 hy2 rfl (by decide) _ _ _ rfl (hown.alloc _) ⟨w4.heap.size, 0, none⟩ 1 1 [.int .i64 ms] rfl rfl ?qd2 ?qd3 ?qd4 ?qd5 ?qd6 ?_)
              case qd3 => first | rfl | (intro u hu; simp at hu; subst hu; rfl)
              case qd4 => unfold maxLen; omega
              case qd5 => omega
              case qd6 => first | omega | (simp; omega)
              intro v' w5 hown' hgrow _
              have hkt := KT.grown (hown.alloc (.cells #[.int .i64 ms] 3)) hgrow
              have HR5 := Lib.hid (hkt.2 _ _ _ (by decide) (HR4.out.alloc _))
              have HJ5 : Hid (JobsCur w5 g L (leftB L (q + 1))) := Lib.hid ((HJ4.out.below ((Below.refl _ w4).alloc (Nat.le_refl _) _)).kt hkt (by decide))
              have HB5 : Hid (Below w.heap.size w w5) := Lib.hid (by
                have h1 := HB4.out.trans (((Below.refl _ w4).alloc (Nat.le_refl _) (.cells #[.int .i64 ms] 3)).mono HB4.out.size)
                exact h1.grown hgrow h1.size fun g hg' => ((hown.alloc (.cells #[] 0)).lt g hg').1)
              have HO5 : Hid (w5.ownsRow w.heap.size 3 1 v' (q + 1) (tabK L (q + 1))) := Lib.hid (by rw [HTK2.out]; exact hown')
              clear hown' hgrow hkt hown
              go_wp2_with fail
              go_roundw
              case rel => exact ⟨q + 1, by omega, by go_num, Lib.hid ⟨HB5.out, HR5.out, HJ5.out, HO5.out⟩⟩
              case measure => simp [intOf]; omega
          · obtain rfl : q = C := by omega
            obtain ⟨A5, c5, hve, hcl5⟩ := Cl.of_own (n := q) (by omega) (by have := h4.out.2.2.2; rw [tabK_rows] at this; exact this)
            subst hve
            have HCL5 := Lib.hid hcl5
            have r0 : wr.cell? ⟨w.heap.size, 0, none⟩ = some (.int .i64 0) := h4.out.2.1.cell 0
            have r1 : wr.cell? ⟨w.heap.size, 1, none⟩ = some (.int .i64 0) := h4.out.2.1.cell 1
            have rf := h4.out.2.1.free
            clear hcl5
            go_wp2_with fail
            refine bodyPost_ret (v := .tuple #[.slice A5 q c5, .agg #[.int .i64 0, .int .i64 0], .int .i64 0]) ?_ rfl (HFIN.out A5 c5 (tableB L q) (0, 0) 0 q 0 0 _ HS.out HTL.out rfl rfl ?_ ?_)
            · exact results_f22 _ _ w.heap.size #[.int .i64 0, .int .i64 0] _ _ rfl rfl rfl ((h4.out.2.1.set 0 _).set 1 _) rfl
            · exact ((HCL5.out.kt (KT.only (Only.setCell _ _ _ _) h4.out.2.1) (by decide)).kt (KT.only (Only.setCell _ _ _ _) (h4.out.2.1.set 0 _)) (by decide))
            · exact ((h4.out.1.setCell (p := ⟨w.heap.size, 0, none⟩) (by simp) _).setCell (p := ⟨w.heap.size, 1, none⟩) (by simp) _)
end Go.Proofs.Ytnmccbjdfdbgpaa
/- What is proved: a contract of the document's has. Conditions: the list lies in memory. -/
namespace Go.Proofs.Ytnmccbjdfdbgpaa
open Go.RowKit

def hasB (l : List Int) (x : Int) : Bool := !(allN l.length fun i => !decide (getI l i = x))
set_option maxRecDepth 100000 in
set_option maxHeartbeats 4000000 in
theorem has_any (w : World) (A : Option Addr) (c : Nat) (l : List Int) (x : Int) (h : IntsAt w w.heap.size A l) :
    Calls Try.prog 66 #[.slice A l.length c, .int .i64 x] w fun e w' => e = .returned (.bool (hasB l x)) ∧ w' = w := by
  have HL := Lib.hid h
  have hll := h.1
  obtain ⟨n, hn⟩ : ∃ n, l.length = n := ⟨_, rfl⟩
  have HN := Lib.hid hn
  have HD : Hid (hasB l x = !(allN n fun i => !decide (getI l i = x))) := Lib.hid (by unfold hasB; rw [hn])
  obtain ⟨R, hR⟩ : ∃ R, hasB l x = R := ⟨_, rfl⟩
  have HFIN : Hid (∀ (e : Ending) (w' : World), e = .returned (.bool R) → w' = w → e = .returned (.bool R) ∧ w' = w) := Lib.hid fun _ _ a b => ⟨a, b⟩
  rw [hn] at hll ⊢
  rw [hR] at HD ⊢
  clear h hn hR
  go_enter Try.func66, Try.ntmps66
  go_wp2_with fail
  go_loopw [5] (fun i wr => ∃ k : Nat, k ≤ n ∧ i = .int .i64 k ∧ Hid (wr = w ∧ (∀ j, j < k → ¬ getI l j = x))) (fun i _ => n - (intOf i).toNat)
  case atStart => exact ⟨0, Nat.zero_le _, rfl, Lib.hid ⟨rfl, fun j hj => absurd hj (Nat.not_lt_zero j)⟩⟩
  case round =>
    obtain ⟨k, hk, rfl, hs⟩ := hrel
    obtain ⟨hw, hno⟩ := hs.out
    subst hw
    have HNO := Lib.hid hno
    clear hno hs
    by_cases hlt : k < n
    · have hki : (k : Int) < (n : Int) := by omega
      have h0k : (0 : Int) ≤ (k : Int) := by omega
      have hkt : k < l.length := by rw [HN.out]; exact hlt
      obtain ⟨bb, off, rfl, _, d0⟩ := Sl.at1 HL.out hkt
      obtain ⟨y, hy⟩ : ∃ y, getI l k = y := ⟨_, rfl⟩
      have HY := Lib.hid hy
      try dsimp only at d0
      rw [hy] at d0
      clear hy
      by_cases he : y = x
      · have HR : Hid (R = true) := Lib.hid (by
          rw [HD.out]
          cases ha : allN n fun i => !decide (getI l i = x) with
          | false => rfl
          | true =>
            have := allN_iff.1 ha k hlt
            rw [HY.out] at this
            simp [he] at this)
        subst he
        go_wp2_with fail
        go_ret
        exact HFIN.out _ _ (by rw [HR.out]; rfl) rfl
      · have HE := Lib.hid he
        have he1 : (y == x) = false := by rw [beq_eq_false_iff_ne]; exact he
        go_wp2_with fail
        go_roundw
        case rel => exact ⟨k + 1, by omega, by go_num, Lib.hid ⟨by first | exact trivial | rfl, fun j hj => by
          by_cases e : j = k
          · subst e; rw [HY.out]; exact HE.out
          · exact HNO.out j (by omega)⟩⟩
        case measure => simp [intOf]; omega
    · obtain rfl : k = n := by omega
      have HR : Hid (R = false) := Lib.hid (by
        rw [HD.out, allN_iff.2 fun i hi => by simpa using HNO.out i hi]; rfl)
      go_wp2_with fail
      go_ret
      exact HFIN.out _ _ (by rw [HR.out]; rfl) rfl
end Go.Proofs.Ytnmccbjdfdbgpaa
/- What is proved: a contract of the document's majority. Conditions: the list lies in memory. -/
namespace Go.Proofs.Ytnmccbjdfdbgpaa
open Go.RowKit

def cntE (l : List Int) (x : Int) : Nat → Nat
  | 0 => 0
  | k + 1 => cntE l x k + if getI l k = x then 1 else 0
theorem cntE_take (l : List Int) (x : Int) : ∀ k, k ≤ l.length → cntE l x k = (l.take k).count x
  | 0, _ => by simp [cntE]
  | k + 1, hk => by
    have ih := cntE_take l x k (by omega)
    show cntE l x k + (if getI l k = x then 1 else 0) = _
    rw [take_succI (by omega), List.count_append, ← ih]
    by_cases e : getI l k = x
    · rw [if_pos e, e]; simp
    · rw [if_neg e]; simp [e]
theorem cntE_all (l : List Int) (x : Int) : cntE l x l.length = l.count x := by rw [cntE_take l x _ (Nat.le_refl _), List.take_length]
theorem cntE_le (l : List Int) (x : Int) : ∀ k, cntE l x k ≤ k
  | 0 => Nat.le_refl _
  | k + 1 => by have := cntE_le l x k; unfold cntE; split <;> omega
set_option maxRecDepth 100000 in
set_option maxHeartbeats 8000000 in
theorem refMaj_any (w : World) (A : Option Addr) (c : Nat) (l : List Int) (h : IntsAt w w.heap.size A l) (hn : l.length ≤ 4096) :
    Calls Try.prog 90 #[.slice A l.length c] w fun e w' => e = .returned (.int .i64 (majB l)) ∧ Below w.heap.size w w' := by
  have HL := Lib.hid h
  obtain ⟨n, hnn⟩ : ∃ n, l.length = n := ⟨_, rfl⟩
  have HN := Lib.hid hnn
  obtain ⟨R, hR⟩ : ∃ R, majB l = R := ⟨_, rfl⟩
  have HYES : Hid (∀ x, n < 2 * cntE l x n → R = x) := Lib.hid fun x hx => by rw [← hR]; exact majB_at (by rw [← cntE_all, hnn]; exact hx)
  have HNONE : Hid ((∀ i, i < n → ¬ n < 2 * cntE l (getI l i) n) → R = 0) := Lib.hid fun h0 => by
    rw [← hR]
    refine majB_none fun x hx => ?_
    obtain ⟨i, hi, he⟩ := List.getElem_of_mem hx
    have h2 := h0 i (by rw [← hnn]; exact hi)
    rw [show getI l i = x from by unfold getI; rw [List.getD_eq_getElem?_getD, List.getElem?_eq_getElem hi, he]; rfl] at h2
    rw [← cntE_all, hnn]; exact h2
  have HFIN : Hid (∀ (e : Ending) (w' : World), e = .returned (.int .i64 R) → Below w.heap.size w w' → e = .returned (.int .i64 R) ∧ Below w.heap.size w w') := Lib.hid fun _ _ a b => ⟨a, b⟩
  rw [hnn] at hn ⊢
  rw [hR]
  clear h hnn hR
  go_enter Try.func90, Try.ntmps90
  go_wp2_with fail
  go_loopw [3] (fun i wr => ∃ k : Nat, k ≤ n ∧ i = .int .i64 k ∧ Hid (Below w.heap.size w wr ∧ (∀ j, j < k → ¬ n < 2 * cntE l (getI l j) n))) (fun i _ => n - (intOf i).toNat)
  case atStart => exact ⟨0, Nat.zero_le _, rfl, Lib.hid ⟨Below.refl _ _, fun j hj => absurd hj (Nat.not_lt_zero j)⟩⟩
  case round =>
    obtain ⟨i, hi, rfl, hs⟩ := hrel
    by_cases hlt : i < n
    · have hii : (i : Int) < (n : Int) := by omega
      have h0i : (0 : Int) ≤ (i : Int) := by omega
      have hlt' : i < l.length := by rw [HN.out]; exact hlt
      obtain ⟨x, hx⟩ : ∃ x, getI l i = x := ⟨_, rfl⟩
      have HX := Lib.hid hx
      go_wp2_with fail
      go_loopw [4, 5] (fun s t wr => ∃ k : Nat, k ≤ n ∧ s = .int .i64 (cntE l x k : Nat) ∧ t = .int .i64 k ∧ Hid (Below w.heap.size w wr)) (fun _ t _ => n - (intOf t).toNat)
      case atStart => exact ⟨0, Nat.zero_le _, rfl, rfl, Lib.hid hs.out.1⟩
      case round =>
        obtain ⟨k, hk, rfl, rfl, h2⟩ := hrel
        have hbl := cntE_le l x k
        have hbs : cntE l x (k + 1) = cntE l x k + if getI l k = x then 1 else 0 := rfl
        obtain ⟨J, hJ⟩ : ∃ J, cntE l x k = J := ⟨_, rfl⟩
        have HJ := Lib.hid hJ
        rw [hJ] at hbl hbs ⊢
        clear hJ
        obtain ⟨bb, off, hA, _, d0⟩ := Sl.at1 (Sl.below HL.out h2.out) hlt'
        subst hA
        try dsimp only at d0
        rw [hx] at d0
        by_cases hkn : k < n
        · have hki : (k : Int) < (n : Int) := by omega
          have h0k : (0 : Int) ≤ (k : Int) := by omega
          have hkt : k < l.length := by rw [HN.out]; exact hkn
          obtain ⟨bb', off', hA', _, e0⟩ := Sl.at1 (Sl.below HL.out h2.out) hkt
          simp only [Option.some.injEq, Addr.mk.injEq, and_true] at hA'
          obtain ⟨rfl, rfl⟩ := hA'
          obtain ⟨y, hy⟩ : ∃ y, getI l k = y := ⟨_, rfl⟩
          try dsimp only at e0
          rw [hy] at e0 hbs
          have HBS := Lib.hid hbs
          have HNX : Hid (∀ m, Below w.heap.size w (wr.drewN m)) := Lib.hid fun m => below_drewN h2.out m
          clear hx hy hbs
          by_cases h1 : y = x
          · have HE : Hid (cntE l x (k + 1) = J + 1) := Lib.hid (by rw [HBS.out, if_pos h1])
            subst h1
            go_wp2_with fail
            go_quiet (fail)
            go_wp2_with fail
            go_roundw
            case rel => exact ⟨k + 1, by omega, by rw [HE.out]; go_num, by go_num, Lib.hid (HNX.out _)⟩
            case measure => simp [intOf]; omega
          · have h2d : (y == x) = false := by rw [beq_eq_false_iff_ne]; exact h1
            have h2f : decide (y = x) = false := decide_eq_false h1
            have HE : Hid (cntE l x (k + 1) = J) := Lib.hid (by rw [HBS.out, if_neg h1]; rfl)
            go_wp2_with fail
            go_quiet (fail)
            go_wp2_with fail
            go_roundw
            case rel => exact ⟨k + 1, by omega, by rw [HE.out], by go_num, Lib.hid (HNX.out _)⟩
            case measure => simp [intOf]; omega
        · obtain rfl : k = n := by omega
          clear hx hbs
          by_cases hbig : k < 2 * J
          · have hbi : (k : Int) < 2 * (J : Int) := by omega
            have HRE : Hid (R = x) := Lib.hid (HYES.out x (by rw [HJ.out]; exact hbig))
            go_wp2_with fail
            go_ret
            exact HFIN.out _ _ (by rw [HRE.out]; rfl) h2.out
          · have hbi : ¬ (k : Int) < 2 * (J : Int) := by omega
            have HNX : Hid (∀ j, j < i + 1 → ¬ k < 2 * cntE l (getI l j) k) := Lib.hid fun j hj => by
              by_cases e : j = i
              · subst e; rw [HX.out, HJ.out]; exact hbig
              · exact hs.out.2 j (by omega)
            go_wp2_with fail
            go_roundw
            case rel => first | exact ⟨i + 1, by omega, by go_num, Lib.hid ⟨h2.out, HNX.out⟩⟩ | ((repeat apply Exists.intro); exact ⟨⟨i + 1, by omega, by go_num, Lib.hid ⟨h2.out, HNX.out⟩⟩, rfl⟩)
            case measure => simp [intOf]; omega
    · obtain rfl : i = n := by omega
      have HR0 : Hid (R = 0) := Lib.hid (HNONE.out hs.out.2)
      go_wp2_with fail
      go_ret
      exact HFIN.out _ _ (by rw [HR0.out]; rfl) hs.out.1
end Go.Proofs.Ytnmccbjdfdbgpaa
/- What is proved: a contract of the program's majority. Conditions: the list lies in memory and is not empty. -/
namespace Go.Proofs.Ytnmccbjdfdbgpaa
open Go.RowKit

theorem maj_mid {l : List Int} {y : Int} (h : l.length < 2 * l.count y) : getI (sortB l) (l.length / 2) = y := by
  have hp := sortB_perm l
  have hc : (sortB l).count y = l.count y := hp.count_eq y
  have h1 : ∀ l : List Int, l.countP (fun z => decide (z < y)) + l.count y ≤ l.length := fun l => by
    induction l with
    | nil => simp
    | cons a t ih =>
      simp only [List.countP_cons, List.count_cons, List.length_cons, beq_iff_eq, decide_eq_true_eq]
      split <;> split <;> omega
  have h2 := h1 (sortB l)
  rw [sortB_len, hc] at h2
  exact sorted_at (sortB_sorted l) (by omega) (by rw [hc]; omega)
set_option maxRecDepth 100000 in
set_option maxHeartbeats 8000000 in
theorem maj_any (w : World) (A : Option Addr) (c : Nat) (l : List Int) (h : IntsAt w w.heap.size A l) (hn : l.length ≤ 4096) (h0 : 0 < l.length) :
    Calls Try.prog 79 #[.slice A l.length c] w fun e w' => e = .returned (.int .i64 (majB l)) ∧ Below w.heap.size w w' := by
  have HAS := Lib.hid (ascending_any w A c l h hn)
  obtain ⟨n, hnn⟩ : ∃ n, l.length = n := ⟨_, rfl⟩
  have HN := Lib.hid hnn
  obtain ⟨R, hR⟩ : ∃ R, majB l = R := ⟨_, rfl⟩
  obtain ⟨x, hx⟩ : ∃ x, getI (sortB l) (n / 2) = x := ⟨_, rfl⟩
  have HX := Lib.hid hx
  have hce : cntE (sortB l) x n = l.count x := by
    rw [← hnn, ← sortB_len l, cntE_all]; exact (sortB_perm l).count_eq x
  have HYES : Hid (n < 2 * cntE (sortB l) x n → R = x) := Lib.hid fun h => by rw [← hR]; exact majB_at (by rw [← hce, hnn]; exact h)
  have HNO : Hid (¬ n < 2 * cntE (sortB l) x n → R = 0) := Lib.hid fun h => by
    rw [← hR]
    refine majB_none fun y _ hy => ?_
    have h3 := maj_mid hy
    rw [hnn, hx] at h3
    subst h3
    rw [hce, ← hnn] at h
    exact h hy
  have HFIN : Hid (∀ (e : Ending) (w' : World), e = .returned (.int .i64 R) → Below w.heap.size w w' → e = .returned (.int .i64 R) ∧ Below w.heap.size w w') := Lib.hid fun _ _ a b => ⟨a, b⟩
  rw [hnn] at hn h0 HAS ⊢
  rw [hR]
  clear h hnn hR hce
  go_enter Try.func79, Try.ntmps79
  go_wp2_with fail
  refine HAS.out.mono ?_
  rintro e w2 ⟨A3, c3, rfl, hcl, hb2⟩
  obtain ⟨g3, cur3, rfl, hg3, hbk3, hcc3⟩ := hcl.2 h0
  have HB2 := Lib.hid hb2
  have HCC : Hid (∀ w', Below w2.heap.size w2 w' → ∀ k, k < n → w'.cell? ⟨g3, k, none⟩ = some (.int .i64 (getI (sortB l) k))) := Lib.hid fun w' hb k hk => by
    have := hcc3 k hk 0 (by omega)
    rw [Nat.mul_one, Nat.add_zero] at this
    exact ((hbk3.below hb hbk3.lt).cell _).trans this
  have d0 := HCC.out w2 (Below.refl _ _) (n / 2) (by omega)
  rw [hx] at d0
  have hq0' : ((n / 2 : Nat) : Int) ≤ 4096 := by omega
  obtain ⟨hf, hhf⟩ : ∃ hf, n / 2 = hf := ⟨_, rfl⟩
  rw [hhf] at d0 hq0'
  have hq : (n : Int).tdiv 2 = (hf : Int) := by rw [Int.tdiv_eq_ediv_of_nonneg (by omega)]; omega
  have hhn : hf < n := by omega
  have HHF := Lib.hid hhf
  clear hhf
  have hqn : (hf : Int) < (n : Int) := by omega
  have hq0 : (0 : Int) ≤ (hf : Int) := by omega
  clear hcl hg3 hbk3 hcc3 hb2 hx
  go_wp2_with fail
  clear hq hqn hq0 d0
  go_loopw [4, 17] (fun s t wr => ∃ k : Nat, k ≤ n ∧ s = .int .i64 (cntE (sortB l) x k : Nat) ∧ t = .int .i64 k ∧ Hid (Below w2.heap.size w2 wr)) (fun _ t _ => n - (intOf t).toNat)
  case atStart => exact ⟨0, Nat.zero_le _, rfl, rfl, Lib.hid (Below.refl _ _)⟩
  case round =>
    obtain ⟨k, hk, rfl, rfl, h2⟩ := hrel
    have hbl := cntE_le (sortB l) x k
    have hbs : cntE (sortB l) x (k + 1) = cntE (sortB l) x k + if getI (sortB l) k = x then 1 else 0 := rfl
    obtain ⟨J, hJ⟩ : ∃ J, cntE (sortB l) x k = J := ⟨_, rfl⟩
    have HJ := Lib.hid hJ
    rw [hJ] at hbl hbs ⊢
    clear hJ
    have HBW := Lib.hid (HB2.out.trans (h2.out.mono HB2.out.size))
    by_cases hkn : k < n
    · have hki : (k : Int) < (n : Int) := by omega
      have h0k : (0 : Int) ≤ (k : Int) := by omega
      have d1 := HCC.out wr h2.out k hkn
      obtain ⟨y, hy⟩ : ∃ y, getI (sortB l) k = y := ⟨_, rfl⟩
      rw [hy] at d1 hbs
      have HBS := Lib.hid hbs
      clear hy hbs
      by_cases h1 : y = x
      · have HE : Hid (cntE (sortB l) x (k + 1) = J + 1) := Lib.hid (by rw [HBS.out, if_pos h1])
        subst h1
        go_wp2_with fail
        go_roundw
        case rel => exact ⟨k + 1, by omega, by rw [HE.out]; go_num, by go_num, h2⟩
        case measure => simp [intOf]; omega
      · have h2d : (y == x) = false := by rw [beq_eq_false_iff_ne]; exact h1
        have h2f : decide (y = x) = false := decide_eq_false h1
        have HE : Hid (cntE (sortB l) x (k + 1) = J) := Lib.hid (by rw [HBS.out, if_neg h1]; rfl)
        go_wp2_with fail
        go_roundw
        case rel => exact ⟨k + 1, by omega, by rw [HE.out], by go_num, h2⟩
        case measure => simp [intOf]; omega
    · obtain rfl : k = n := by omega
      rw [HJ.out] at HYES HNO
      clear hbs
      by_cases hbig : k < 2 * J
      · have hbi : (k : Int) < 2 * (J : Int) := by omega
        have HRE : Hid (R = x) := Lib.hid (HYES.out hbig)
        go_wp2_with fail
        go_ret
        exact HFIN.out _ _ (by rw [HRE.out]; rfl) HBW.out
      · have hbi : ¬ (k : Int) < 2 * (J : Int) := by omega
        have HRE : Hid (R = 0) := Lib.hid (HNO.out hbig)
        go_wp2_with fail
        go_ret
        exact HFIN.out _ _ (by rw [HRE.out]; rfl) HBW.out
end Go.Proofs.Ytnmccbjdfdbgpaa
/- What is proved: contracts of slices.Index and slices.Contains at int. Conditions: the list lies in memory. -/
namespace Go.Proofs.Ytnmccbjdfdbgpaa
open Go.RowKit

set_option maxRecDepth 100000 in
set_option maxHeartbeats 4000000 in
theorem index_any (w : World) (A : Option Addr) (c : Nat) (l : List Int) (x : Int) (h : IntsAt w w.heap.size A l) :
    Calls Try.prog 91 #[.slice A l.length c, .int .i64 x] w fun e w' => ∃ r : Int, e = .returned (.int .i64 r) ∧ decide (0 ≤ r) = hasB l x ∧ w' = w := by
  have HL := Lib.hid h
  have hll := h.1
  obtain ⟨n, hn⟩ : ∃ n, l.length = n := ⟨_, rfl⟩
  have HN := Lib.hid hn
  have HD : Hid (hasB l x = !(allN n fun i => !decide (getI l i = x))) := Lib.hid (by unfold hasB; rw [hn])
  obtain ⟨R, hR⟩ : ∃ R, hasB l x = R := ⟨_, rfl⟩
  have HFIN : Hid (∀ (r : Int) (e : Ending) (w' : World), decide (0 ≤ r) = R → e = .returned (.int .i64 r) → w' = w → ∃ r : Int, e = .returned (.int .i64 r) ∧ decide (0 ≤ r) = R ∧ w' = w) := Lib.hid fun r _ _ h a b => ⟨r, a, h, b⟩
  rw [hn] at hll ⊢
  rw [hR] at HD ⊢
  clear h hn hR
  go_enter Try.func91, Try.ntmps91
  go_wp2_with fail
  go_loopw [8] (fun i wr => ∃ k : Nat, k ≤ n ∧ i = .int .i64 k ∧ Hid (wr = w ∧ (∀ j, j < k → ¬ getI l j = x))) (fun i _ => n - (intOf i).toNat)
  case atStart => exact ⟨0, Nat.zero_le _, rfl, Lib.hid ⟨rfl, fun j hj => absurd hj (Nat.not_lt_zero j)⟩⟩
  case round =>
    obtain ⟨k, hk, rfl, hs⟩ := hrel
    obtain ⟨hw, hno⟩ := hs.out
    subst hw
    have HNO := Lib.hid hno
    clear hno hs
    by_cases hlt : k < n
    · have hki : (k : Int) < (n : Int) := by omega
      have h0k : (0 : Int) ≤ (k : Int) := by omega
      have hkt : k < l.length := by rw [HN.out]; exact hlt
      obtain ⟨bb, off, rfl, _, d0⟩ := Sl.at1 HL.out hkt
      obtain ⟨y, hy⟩ : ∃ y, getI l k = y := ⟨_, rfl⟩
      have HY := Lib.hid hy
      try dsimp only at d0
      rw [hy] at d0
      clear hy
      by_cases he : y = x
      · have HR : Hid (R = true) := Lib.hid (by
          rw [HD.out]
          cases ha : allN n fun i => !decide (getI l i = x) with
          | false => rfl
          | true =>
            have := allN_iff.1 ha k hlt
            rw [HY.out] at this
            simp [he] at this)
        subst he
        go_wp2_with fail
        go_ret
        exact HFIN.out (k : Int) _ _ (by rw [HR.out]; exact decide_eq_true (by omega)) rfl rfl
      · have HE := Lib.hid he
        have he1 : (x == y) = false := by rw [beq_eq_false_iff_ne]; exact fun h => he h.symm
        have he2 : ¬ x = y := fun h => he h.symm
        go_wp2_with fail
        go_roundw
        case rel => exact ⟨k + 1, by omega, by go_num, Lib.hid ⟨by first | exact trivial | rfl, fun j hj => by
          by_cases e : j = k
          · subst e; rw [HY.out]; exact HE.out
          · exact HNO.out j (by omega)⟩⟩
        case measure => simp [intOf]; omega
    · obtain rfl : k = n := by omega
      have HR : Hid (R = false) := Lib.hid (by
        rw [HD.out, allN_iff.2 fun i hi => by simpa using HNO.out i hi]; rfl)
      go_wp2_with fail
      go_ret
      exact HFIN.out (-1) _ _ (by rw [HR.out]; rfl) rfl rfl

set_option maxRecDepth 100000 in
theorem contains_any (w : World) (A : Option Addr) (c : Nat) (l : List Int) (x : Int) (h : IntsAt w w.heap.size A l) :
    Calls Try.prog 82 #[.slice A l.length c, .int .i64 x] w fun e w' => e = .returned (.bool (hasB l x)) ∧ w' = w := by
  have H := Lib.hid (index_any w A c l x h)
  clear h
  go_enter Try.func82, Try.ntmps82
  go_wp2_with fail
  refine H.out.mono ?_
  rintro e w' ⟨r, rfl, hr, rfl⟩
  have HR := Lib.hid hr
  clear hr
  go_wp2_with fail
  go_ret
  exact ⟨ret_bool (by simpa using HR.out), rfl⟩
end Go.Proofs.Ytnmccbjdfdbgpaa
/- What is proved: a contract of the document's Ints. Conditions: the lists lie in memory. -/
namespace Go.Proofs.Ytnmccbjdfdbgpaa
open Go.RowKit

def intsB (l m : List Int) : Bool := decide (l.length = m.length) && allN l.length fun i => decide (getI l i = getI m i)
set_option maxRecDepth 100000 in
set_option maxHeartbeats 4000000 in
theorem ints_any (w : World) (A B : Option Addr) (c d : Nat) (l m : List Int) (h : IntsAt w w.heap.size A l) (h' : IntsAt w w.heap.size B m) :
    Calls Try.prog 23 #[.slice A l.length c, .slice B m.length d] w fun e w' => e = .returned (.bool (intsB l m)) ∧ Below w.heap.size w w' := by
  have HL := Lib.hid h
  have HM := Lib.hid h'
  have hll := h.1
  have hmm := h'.1
  have HD : Hid (intsB l m = (decide (l.length = m.length) && allN l.length fun i => decide (getI l i = getI m i))) := Lib.hid rfl
  obtain ⟨n, hn⟩ : ∃ n, l.length = n := ⟨_, rfl⟩
  have HN := Lib.hid hn
  obtain ⟨p, hp⟩ : ∃ p, m.length = p := ⟨_, rfl⟩
  have HP := Lib.hid hp
  obtain ⟨R, hR⟩ : ∃ R, intsB l m = R := ⟨_, rfl⟩
  have HFIN : Hid (∀ (e : Ending) (w' : World), e = .returned (.bool R) → Below w.heap.size w w' → e = .returned (.bool R) ∧ Below w.heap.size w w') := Lib.hid fun _ _ a b => ⟨a, b⟩
  rw [hn, hp] at HD
  rw [hn] at hll ⊢
  rw [hp] at hmm ⊢
  rw [hR] at HD ⊢
  clear h h' hn hp hR
  by_cases hne : n = p
  case neg =>
    have hni : ¬ (n : Int) = (p : Int) := by omega
    have HR : Hid (R = false) := Lib.hid (by rw [HD.out, decide_eq_false hne, Bool.false_and])
    clear hne
    go_enter Try.func23, Try.ntmps23
    go_wp2_with fail
    go_ret
    exact HFIN.out _ _ (by rw [HR.out]; rfl) (Below.refl _ _)
  case pos =>
    subst hne
    go_enter Try.func23, Try.ntmps23
    go_wp2_with fail
    go_loopw [5] (fun i wr => ∃ k : Nat, k ≤ n ∧ i = .int .i64 k ∧ Hid (Below w.heap.size w wr ∧ (∀ j, j < k → getI l j = getI m j))) (fun i _ => n - (intOf i).toNat)
    case atStart => exact ⟨0, Nat.zero_le _, rfl, Lib.hid ⟨Below.refl _ _, fun j hj => absurd hj (Nat.not_lt_zero j)⟩⟩
    case round =>
      obtain ⟨k, hk, rfl, hs⟩ := hrel
      by_cases hlt : k < n
      · have hki : (k : Int) < (n : Int) := by omega
        have h0k : (0 : Int) ≤ (k : Int) := by omega
        obtain ⟨bb, off, rfl, _, d0⟩ := Sl.at1 (Sl.below HL.out hs.out.1) (i := k) (by rw [HN.out]; exact hlt)
        obtain ⟨bc, ofc, rfl, _, d1⟩ := Sl.at1 (Sl.below HM.out hs.out.1) (i := k) (by rw [HP.out]; exact hlt)
        obtain ⟨x, hx⟩ : ∃ x, getI l k = x := ⟨_, rfl⟩
        obtain ⟨y, hy⟩ : ∃ y, getI m k = y := ⟨_, rfl⟩
        have HX := Lib.hid hx
        have HY := Lib.hid hy
        try dsimp only at d0 d1
        rw [hx] at d0
        rw [hy] at d1
        have HNX : Hid (∀ q, Below w.heap.size w (wr.drewN q)) := Lib.hid fun q => below_drewN hs.out.1 q
        clear hx hy
        by_cases he : x = y
        · subst he
          go_wp2_with fail
          go_quiet (fail)
          go_wp2_with fail
          go_roundw
          case rel => exact ⟨k + 1, by omega, by go_num, Lib.hid ⟨HNX.out _, fun j hj => by
            by_cases e : j = k
            · subst e; rw [HX.out, HY.out]
            · exact hs.out.2 j (by omega)⟩⟩
          case measure => simp [intOf]; omega
        · have he1 : (x == y) = false := by rw [beq_eq_false_iff_ne]; exact he
          have he2 : (x != y) = true := by rw [bne, he1]; rfl
          have HR : Hid (R = false) := Lib.hid (by
            rw [HD.out, show (decide True) = true from rfl, Bool.true_and]
            cases ha : allN n fun i => decide (getI l i = getI m i) with
            | false => rfl
            | true =>
              have := allN_iff.1 ha k hlt
              rw [HX.out, HY.out] at this
              exact absurd (of_decide_eq_true this) he)
          go_wp2_with fail
          go_quiet (fail)
          go_wp2_with fail
          go_ret
          exact HFIN.out _ _ (by rw [HR.out]; rfl) (HNX.out _)
      · obtain rfl : k = n := by omega
        have HR : Hid (R = true) := Lib.hid (by
          rw [HD.out, show (decide True) = true from rfl, Bool.true_and]
          exact allN_iff.2 fun i hi => decide_eq_true (hs.out.2 i hi))
        go_wp2_with fail
        go_ret
        exact HFIN.out _ _ (by rw [HR.out]; rfl) hs.out.1
end Go.Proofs.Ytnmccbjdfdbgpaa
