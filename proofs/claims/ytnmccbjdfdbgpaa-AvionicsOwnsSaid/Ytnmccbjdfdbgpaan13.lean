/- What is proved: the texts Bj Bi, one behind the other; each says at its head what it proves, and under which conditions. -/
import Derived.BigQuiet
import Derived.Test.Ytnmccbjdfdbgpaan12
/- What is proved: the plain law of the document's Serves. Conditions: those that each lemma states. -/
namespace Go.Proofs.Ytnmccbjdfdbgpaa
open Go.RowKit

/-- How many slots of a table are for a job. -/
def winC (T : Nat → Int) (L : List JobD) (j : Nat) : Nat := cntB (fun s => isM T (JobD.at_ L j).msg ((JobD.at_ L j).src + s)) ((JobD.at_ L j).fin - (JobD.at_ L j).src)
/-- How many slots the first k jobs ask for, those of message i. -/
def sumM (L : List JobD) (i : Nat) : Nat → Nat
  | 0 => 0
  | k + 1 => sumM L i k + if (JobD.at_ L k).msg = i then (JobD.at_ L k).left else 0
theorem sumM_succ (L : List JobD) (i k : Nat) : sumM L i (k + 1) = sumM L i k + if (JobD.at_ L k).msg = i then (JobD.at_ L k).left else 0 := rfl
theorem sumM_le {L : List JobD} (h : ∀ j, j < L.length → (JobD.at_ L j).left ≤ 1000) (i : Nat) : ∀ k, k ≤ L.length → sumM L i k ≤ 1000 * k
  | 0, _ => Nat.le_refl _
  | k + 1, hk => by
    have h1 := sumM_le h i k (by omega)
    have h2 := h k (by omega)
    unfold sumM; split <;> omega
theorem at_append_l {A B : List JobD} {j : Nat} (h : j < A.length) : JobD.at_ (A ++ B) j = JobD.at_ A j := by
  unfold JobD.at_
  rw [List.getD_eq_getElem?_getD, List.getElem?_append_left h, ← List.getD_eq_getElem?_getD]
theorem at_append_r {A B : List JobD} {j : Nat} : JobD.at_ (A ++ B) (A.length + j) = JobD.at_ B j := by
  unfold JobD.at_
  rw [List.getD_eq_getElem?_getD, List.getElem?_append_right (by omega), Nat.add_sub_cancel_left, ← List.getD_eq_getElem?_getD]
theorem sumM_left {A B : List JobD} {i : Nat} : ∀ k, k ≤ A.length → sumM (A ++ B) i k = sumM A i k
  | 0, _ => rfl
  | k + 1, hk => by rw [sumM_succ, sumM_succ, sumM_left k (by omega), at_append_l (by omega)]
theorem sumM_right {A B : List JobD} {i : Nat} : ∀ q, sumM (A ++ B) i (A.length + q) = sumM A i A.length + sumM B i q
  | 0 => sumM_left _ (Nat.le_refl _)
  | q + 1 => by
    rw [show A.length + (q + 1) = (A.length + q) + 1 from rfl, sumM_succ, sumM_succ, sumM_right q, at_append_r]; omega
theorem jobsOne_at {m : MsgN} {C k r : Nat} (h : r < C / m.per k) : JobD.at_ (jobsOne m C k) r = jobM m k r := by
  unfold JobD.at_ jobsOne
  simp [List.getD_eq_getElem?_getD, h]
theorem sumM_one {m : MsgN} {C k i : Nat} : ∀ q, q ≤ C / m.per k → sumM (jobsOne m C k) i q = if k = i then q * m.size k else 0
  | 0, _ => by simp [sumM]
  | q + 1, hq => by
    rw [sumM_succ, sumM_one q (by omega), jobsOne_at (by omega)]
    show _ + (if k = i then m.size k else 0) = _
    by_cases e : k = i
    · rw [if_pos e, if_pos e, if_pos e, Nat.add_mul, Nat.one_mul]
    · rw [if_neg e, if_neg e, if_neg e]
theorem sumM_jobs {m : MsgN} {C i : Nat} : ∀ k, sumM (jobsTo m C k) i (jobsTo m C k).length = if i < k then C / m.per i * m.size i else 0
  | 0 => by rw [if_neg (by omega)]; rfl
  | k + 1 => by
    have h1 := jobsTo_len m C k
    rw [h1]
    show sumM (jobsTo m C k ++ jobsOne m C k) i _ = _
    rw [sumM_right, sumM_jobs k, sumM_one _ (Nat.le_refl _)]
    by_cases e : k = i
    · subst e; rw [if_neg (by omega), if_pos rfl, if_pos (by omega), Nat.zero_add]
    · rw [if_neg e]
      by_cases e2 : i < k
      · rw [if_pos e2, if_pos (by omega)]; rfl
      · rw [if_neg e2, if_neg (by omega)]
/-- Is slot s of table T right for the document? -/
def slotR (n : Nat) (T : Nat → Int) (s : Nat) : Prop := T s = -1 ∨ ∃ i : Nat, i < n ∧ T s = (i : Int)
theorem slotR_iff {n : Nat} {T : Nat → Int} {s : Nat} : slotR n T s ↔ inB (T s) (-1) ((n : Int) - 1) = true := by
  rw [inB_iff]
  constructor
  · rintro (h | ⟨i, hi, h⟩) <;> omega
  · intro h
    by_cases e : T s = -1
    · exact Or.inl e
    · exact Or.inr ⟨(T s).toNat, by omega, by omega⟩
theorem msgOk_of {l : List MsgD} {C : Nat} (h : CycOk l C (jobsB (msgN l) C)) : MsgOk (msgN l) C :=
  ⟨fun i hi => by
    have := validB_msg h.valid (k := i) hi
    show 1 ≤ (msgAt l i).size.toNat ∧ (msgAt l i).size.toNat ≤ (msgAt l i).dead.toNat ∧ (msgAt l i).dead.toNat ≤ (msgAt l i).per.toNat
    omega, h.div⟩
theorem servR_of {l : List MsgD} {T : List Int} {C : Nat} (h1 : (cycleB l).2 = 0) (hC : cycleN l = C) (h2 : T.length = C) (h3 : ∀ s, s < C → slotR l.length (getI T) s)
    (h4 : ∀ j, j < (jobsB (msgN l) C).length → winC (getI T) (jobsB (msgN l) C) j = (JobD.at_ (jobsB (msgN l) C) j).left)
    (h5 : ∀ i, i < l.length → cntB (isM (getI T) i) C = sumM (jobsB (msgN l) C) i (jobsB (msgN l) C).length) : servQ l T := by
  subst hC
  obtain ⟨_, hok⟩ := cycle_ok h1
  refine ⟨h1, h2, (serv_iff (msgOk_of hok) (getI T)).2 ⟨h3, fun i r hi hr => ?_, fun i hi => ?_⟩⟩
  · obtain ⟨a, b⟩ := jobs_at (m := msgN l) hr hi
    have := h4 _ a
    unfold winC at this
    change cntB _ _ = _ at this
    rw [show jobsB (msgN l) (cycleN l) = jobsTo (msgN l) (cycleN l) (msgN l).n from rfl, b] at this
    simpa [jobM] using this
  · have := h5 i hi
    rw [show jobsB (msgN l) (cycleN l) = jobsTo (msgN l) (cycleN l) (msgN l).n from rfl, sumM_jobs, if_pos (show i < (msgN l).n from hi)] at this
    exact this
theorem servQ_slotR {l : List MsgD} {T : List Int} (h : servQ l T) {s : Nat} (hs : s < cycleN l) : slotR l.length (getI T) s := by
  rcases h.2.2.slot s hs with h | ⟨i, h1, h2, _⟩
  · exact Or.inl h
  · exact Or.inr ⟨i, h1, h2⟩
theorem servQ_win {l : List MsgD} {T : List Int} (h : servQ l T) {j : Nat} (hj : j < (jobsB (msgN l) (cycleN l)).length) : winC (getI T) (jobsB (msgN l) (cycleN l)) j = (JobD.at_ (jobsB (msgN l) (cycleN l)) j).left := by
  obtain ⟨_, hok⟩ := cycle_ok h.1
  have hr := (serv_iff (msgOk_of hok) (getI T)).1 h.2.2
  obtain ⟨i, r, h3, h4, rfl⟩ := jobs_form hj
  have := (jobs_at (m := msgN l) h4 h3).2
  unfold winC
  rw [show jobsB (msgN l) (cycleN l) = jobsTo (msgN l) (cycleN l) (msgN l).n from rfl, this]
  have := hr.cnt i r h3 h4
  simpa [jobM] using this
theorem servQ_used {l : List MsgD} {T : List Int} (h : servQ l T) {i : Nat} (hi : i < l.length) : cntB (isM (getI T) i) (cycleN l) = sumM (jobsB (msgN l) (cycleN l)) i (jobsB (msgN l) (cycleN l)).length := by
  obtain ⟨_, hok⟩ := cycle_ok h.1
  have hr := (serv_iff (msgOk_of hok) (getI T)).1 h.2.2
  rw [show jobsB (msgN l) (cycleN l) = jobsTo (msgN l) (cycleN l) (msgN l).n from rfl, sumM_jobs, if_pos (show i < (msgN l).n from hi)]
  exact hr.used i hi
end Go.Proofs.Ytnmccbjdfdbgpaa
/- What is proved: a contract of Serves. Conditions: the messages and the table lie in memory. -/
namespace Go.Proofs.Ytnmccbjdfdbgpaa
open Go.RowKit

set_option maxRecDepth 100000 in
set_option maxHeartbeats 16000000 in
theorem serves_any (w : World) (A : Option Addr) (c : Nat) (l : List MsgD) (h : MsgsAt w w.heap.size A l) (A' : Option Addr) (c' : Nat) (T : List Int) (h' : IntsAt w w.heap.size A' T) :
    Calls Try.prog 37 #[.slice A l.length c, .slice A' T.length c'] w (ServPost w l T) := by
  have HL := Lib.hid h
  have HT := Lib.hid h'
  have hll := h.1
  have hlt := h'.1
  have HCY := Lib.hid (cycle_any w A c l h)
  have HFIN : Hid (∀ (b : Bool) w', (b = true ↔ servQ l T) → Below w.heap.size w w' → ServPost w l T (.returned (.bool b)) w') := Lib.hid fun b w' h1 h2 => ⟨b, rfl, h1, h2⟩
  have HOK := Lib.hid (cycle_ok (l := l))
  have HQ : Hid (servQ l T → (cycleB l).2 = 0 ∧ T.length = cycleN l) := Lib.hid fun h => ⟨h.1, h.2.1⟩
  obtain ⟨n, hn⟩ : ∃ n, l.length = n := ⟨_, rfl⟩
  have HN := Lib.hid hn
  obtain ⟨nt, hnt⟩ : ∃ nt, T.length = nt := ⟨_, rfl⟩
  have HNT := Lib.hid hnt
  obtain ⟨er, her⟩ : ∃ er, (cycleB l).2 = er := ⟨_, rfl⟩
  have HER := Lib.hid her
  obtain ⟨C0, hC0⟩ : ∃ C0, (cycleB l).1 = C0 := ⟨_, rfl⟩
  rw [hC0, her] at HCY HOK
  rw [her, hnt] at HQ
  rw [hn] at hll HCY ⊢
  rw [hnt] at hlt ⊢
  obtain ⟨JP, hJP⟩ : ∃ Q, ServPost w l T = Q := ⟨_, rfl⟩
  rw [hJP] at HFIN ⊢
  clear h h' hn hnt her hC0 hJP
  go_enter Try.func37, Try.ntmps37
  go_wp2_with fail
  refine HCY.out.mono ?_
  rintro e w1 ⟨rfl, hb1⟩
  have HB1 := Lib.hid hb1
  clear hb1
  by_cases he : er = 0
  case neg =>
    have HNO : Hid (¬ servQ l T) := Lib.hid fun h => he (HQ.out h).1
    go_wp2_with fail
    exact HFIN.out false _ (by simpa using HNO.out) HB1.out
  subst he
  obtain ⟨hCe, hcyc⟩ := HOK.out rfl
  have HCYC := Lib.hid hcyc
  obtain ⟨C, hC⟩ : ∃ C, cycleN l = C := ⟨_, rfl⟩
  have HCN := Lib.hid hC
  rw [hC] at hCe hcyc HQ
  subst hCe
  have hC1 := hcyc.least
  have hC2 := hcyc.great
  have HDIV := Lib.hid hcyc.div
  have hn16 := validB_len hcyc.valid
  have HMS : Hid (∀ k, k < n → ∃ P E S : Nat, (msgAt l k).per = P ∧ (msgAt l k).dead = E ∧ (msgAt l k).size = S ∧ perN l k = P ∧ (msgN l).dead k = E ∧ (msgN l).size k = S ∧ 1 ≤ P ∧ P ≤ 1000 ∧ E ≤ P ∧ S ≤ 1000) := Lib.hid fun k hk => by
    have := validB_msg hcyc.valid (k := k) (by rw [HN.out]; exact hk)
    exact ⟨(msgAt l k).per.toNat, (msgAt l k).dead.toNat, (msgAt l k).size.toNat, by omega, by omega, by omega, rfl, rfl, rfl, by omega, by omega, by omega, by omega⟩
  rw [HN.out] at hn16
  clear hC hcyc
  by_cases hlen : nt = C
  case neg =>
    have HNO : Hid (¬ servQ l T) := Lib.hid fun h => hlen (HQ.out h).2
    have hleni : ¬ (nt : Int) = (C : Int) := by omega
    go_wp2_with fail
    exact HFIN.out false _ (by simpa using HNO.out) HB1.out
  subst hlen
  obtain ⟨R, hR⟩ : ∃ R : Nat → Nat, (fun i => nt / perN l i) = R := ⟨_, rfl⟩
  have HR : Hid (∀ i, R i = nt / perN l i) := Lib.hid fun i => by rw [← hR]
  clear hR
  have KM := makeRows n (by omega) (fun _ => 0) R w1
  obtain ⟨gb, hgb⟩ : ∃ gb, w1.heap.size = gb := ⟨_, rfl⟩
  obtain ⟨W1, hW1⟩ : ∃ W1, w1.alloc (.cells (sliA n 0 (fun _ => 0) R) 36) = W1 := ⟨_, rfl⟩
  have HBW : Hid (Below w.heap.size w W1) := Lib.hid (by rw [← hW1]; exact HB1.out.trans (((Below.refl _ _).alloc (Nat.le_refl _) _).mono HB1.out.size))
  have HG0 : Hid (GotAt W1 w.heap.size gb n 0 (fun _ => 0) R (fun _ _ => 0)) := Lib.hid (GotAt.zero (by rw [← hW1, ← hgb]; exact Bk.new _ _ _) (by rw [← hgb]; exact HB1.out.size))
  rw [hW1, hgb] at KM
  go_wp2_with fail
  clear KM hW1 hgb
  go_loopw [34] (fun i wr => ∃ k : Nat, k ≤ n ∧ i = .int .i64 k ∧ Hid (∃ P, Below w.heap.size w wr ∧ GotAt wr w.heap.size gb n k P R (fun _ _ => 0))) (fun i _ => n - (intOf i).toNat)
  case atStart => exact ⟨0, Nat.zero_le _, rfl, Lib.hid ⟨_, HBW.out, HG0.out⟩⟩
  case round =>
    obtain ⟨k, hk, rfl, hs0⟩ := hrel
    obtain ⟨P, hs1, hs2⟩ := hs0.out
    have HS1 := Lib.hid hs1
    have HS2 := Lib.hid hs2
    clear hs0 hs1 hs2
    by_cases hlt : k < n
    · have hki : (k : Int) < (n : Int) := by omega
      have h0k : (0 : Int) ≤ (k : Int) := by omega
      have hlt' : k < l.length := by rw [HN.out]; exact hlt
      obtain ⟨b, off, rfl, _, d0, d1, d2, d3⟩ := Sl.at4 (Sl.below HL.out HS1.out) hlt'
      obtain ⟨Pk, E, S, hP, hE, hS, hp, he, hsz, hP1, hP2, hE2, hS2⟩ := HMS.out k hlt
      obtain ⟨⟨nm, sz, per, dd⟩, hr⟩ : ∃ r, l.getD k msg0 = r := ⟨_, rfl⟩
      have hmk : msgAt l k = ⟨nm, sz, per, dd⟩ := hr
      rw [hr] at d0 d1 d2 d3
      rw [hmk] at hP hE hS
      simp only [msgC] at d0 d1 d2 d3 hP hE hS
      subst hP hE hS
      have hRk : R k = nt / Pk := by rw [HR.out, hp]
      have hqd : ((nt : Nat) : Int).tdiv (Pk : Int) = ((nt / Pk : Nat) : Int) := by rw [Int.tdiv_eq_ediv_of_nonneg (by omega)]; rfl
      have hqle : nt / Pk ≤ nt := Nat.div_le_self _ _
      obtain ⟨rk, hrk⟩ : ∃ rk, nt / Pk = rk := ⟨_, rfl⟩
      rw [hrk] at hRk hqd hqle
      have HRK := Lib.hid hRk
      obtain ⟨w3, hw3⟩ : ∃ w3, wr.alloc (.cells #[.string nm, .int .i64 S, .int .i64 Pk, .int .i64 E] 80) = w3 := ⟨_, rfl⟩
      have HB3 : Hid (Below wr.heap.size wr w3) := Lib.hid (by rw [← hw3]; exact (Below.refl _ _).alloc (Nat.le_refl _) _)
      have HK3 : Hid (Bk w3 wr.heap.size 80 #[.string nm, .int .i64 S, .int .i64 Pk, .int .i64 E]) := Lib.hid (by rw [← hw3]; exact Bk.new _ _ _)
      have KM := makeInts rk (by omega) w3
      obtain ⟨gr, hgr⟩ : ∃ gr, w3.heap.size = gr := ⟨_, rfl⟩
      obtain ⟨w4, hw4⟩ : ∃ w4, w3.alloc (.cells (intA rk fun _ => 0) 3) = w4 := ⟨_, rfl⟩
      have HG4 : Hid (GotAt (w4.setCell ⟨gb, k, none⟩ (.slice (some ⟨gr, 0, none⟩) rk rk)) w.heap.size gb n (k + 1) (fun i => if i = k then gr else P i) R (fun _ _ => 0)) := Lib.hid (by
        have hb4 : Below wr.heap.size wr w4 := by rw [← hw4]; exact HB3.out.trans (((Below.refl _ _).alloc (Nat.le_refl _) _).mono HB3.out.size)
        have := HS2.out.add hb4 HS1.out.size (g := gr) (by rw [← hgr]; exact HB3.out.size) (by rw [HRK.out, ← hw4, ← hgr]; exact Bk.new _ _ _)
        rw [HRK.out] at this
        exact this)
      have HB4 : Hid (Below w.heap.size w (w4.setCell ⟨gb, k, none⟩ (.slice (some ⟨gr, 0, none⟩) rk rk))) := Lib.hid (by
        have hb4 : Below wr.heap.size wr w4 := by rw [← hw4]; exact HB3.out.trans (((Below.refl _ _).alloc (Nat.le_refl _) _).mono HB3.out.size)
        exact (HS1.out.trans (hb4.mono HS1.out.size)).setCell (p := ⟨gb, k, none⟩) HS2.out.lo.1 _)
      have g4 : Bk w4 gb 36 (sliA n k P R) := by
        rw [← hw4, ← hw3]; exact (HS2.out.box.alloc _).alloc _
      have gc : w4.cell? ⟨gb, k, none⟩ = some (.slice none 0 0) := by rw [g4.cell, sliA_get _ _ _ _ hlt, if_neg (Nat.lt_irrefl _)]
      have gf : w4.frozen? ⟨gb, k, none⟩ = false := g4.free k
      rw [hw4, hgr] at KM
      obtain ⟨mb, hmb⟩ : ∃ mb, wr.heap.size = mb := ⟨_, rfl⟩
      rw [hmb] at HK3
      have e2 : w3.cell? ⟨mb, 2, none⟩ = some (.int .i64 Pk) := HK3.out.cell 2
      clear hr hmk hp he hsz g4 hrk hRk
      go_upto_region 8 with (fail)
      clear hw3 d0 d1 d2 d3 hmb
      go_wp2_with fail
      obtain ⟨w5, hw5⟩ : ∃ w5, w4.setCell ⟨gb, k, none⟩ (.slice (some ⟨gr, 0, none⟩) rk rk) = w5 := ⟨_, rfl⟩
      rw [hw5] at HG4 HB4
      try rw [hw5]
      clear hw5 gc gf e2 KM
      go_roundw
      case rel => exact ⟨k + 1, by omega, by go_num, Lib.hid ⟨_, HB4.out, HG4.out⟩⟩
      case measure => simp [intOf]; omega
    · obtain rfl : k = n := by omega
      have HG5 : Hid (GotAt wr w.heap.size gb k k P R fun i r => ((rowC (getI T) (perN l i) i r 0 : Nat) : Int)) := Lib.hid (HS2.out.congr fun _ _ _ _ => rfl)
      clear HS2
      go_wp2_with fail
      go_loopw [50] (fun i w2 => ∃ q : Nat, q ≤ nt ∧ i = .int .i64 q ∧ Hid (Below w.heap.size w w2 ∧ GotAt w2 w.heap.size gb k k P R (fun i r => ((rowC (getI T) (perN l i) i r q : Nat) : Int)) ∧ ∀ s, s < q → slotP (msgN l) (getI T) s)) (fun i _ => nt - (intOf i).toNat)
      case atStart => exact ⟨0, Nat.zero_le _, rfl, Lib.hid ⟨HS1.out, HG5.out, fun s hs => absurd hs (Nat.not_lt_zero s)⟩⟩
      case round =>
        obtain ⟨q, hq, rfl, hs⟩ := hrel
        clear HG5
        by_cases hlq : q < nt
        · have hqi : (q : Int) < (nt : Int) := by omega
          have h0q : (0 : Int) ≤ (q : Int) := by omega
          obtain ⟨bt, ot, rfl, _, d0⟩ := Sl.at1 (Sl.below HT.out hs.out.1) (i := q) (by rw [HNT.out]; exact hlq)
          obtain ⟨x, hx⟩ : ∃ x, getI T q = x := ⟨_, rfl⟩
          have HX := Lib.hid hx
          try dsimp only at d0
          rw [hx] at d0
          have HSN : Hid (∀ i r, rowC (getI T) (perN l i) i r (q + 1) = rowC (getI T) (perN l i) i r q + if isM (getI T) i q && decide (q / perN l i = r) then 1 else 0) := Lib.hid fun i r => rowC_succ _ _ _ _ _
          clear hx
          by_cases hm1 : x = -1
          · subst hm1
            have HNX : Hid (Below w.heap.size w wr ∧ GotAt wr w.heap.size gb k k P R (fun i r => ((rowC (getI T) (perN l i) i r (q + 1) : Nat) : Int)) ∧ ∀ s, s < q + 1 → slotP (msgN l) (getI T) s) := Lib.hid (by
              refine ⟨hs.out.1, hs.out.2.1.congr fun i _ r _ => ?_, fun s h1 => ?_⟩
              · rw [HSN.out]
                have : isM (getI T) i q = false := by unfold isM; rw [HX.out]; exact decide_eq_false (by omega)
                rw [this, Bool.false_and]; rfl
              · by_cases e : s = q
                · subst e; exact Or.inl HX.out
                · exact hs.out.2.2 s (by omega))
            go_wp2_with fail
            go_roundw
            case rel => exact ⟨q + 1, by omega, by go_num, HNX⟩
            case measure => simp [intOf]; omega
          obtain ⟨bi, hbi⟩ : ∃ bi, inB x 0 ((k : Int) - 1) = bi := ⟨_, rfl⟩
          have HIW := Lib.hid (fun w' => within_any x 0 ((k : Int) - 1) w')
          have HBI := Lib.hid hbi
          rw [hbi] at HIW
          clear hbi
          cases bi with
          | false =>
            have HNO : Hid (¬ servQ l T) := Lib.hid fun h => by
              have h1 := servQ_slot h (s := q) (by rw [HCN.out]; exact hlq)
              unfold slotP at h1
              rw [HX.out] at h1
              rcases h1 with h1 | ⟨i, h1, h2, _⟩
              · exact hm1 h1
              · have h3 : inB x 0 ((k : Int) - 1) = true := inB_iff.2 (by
                  have h4 : i < k := by rw [← HN.out]; exact h1
                  omega)
                rw [HBI.out] at h3; cases h3
            go_wp2_with fail
            go_quiet ((go_at_call 41; exact (HIW.out _).mono fun e w' h => ⟨h.1, _, h.2.symm⟩))
            go_wp2_with fail
            exact HFIN.out false _ (by simpa using HNO.out) (below_drewN hs.out.1 _)
          | true =>
            obtain ⟨hx0, hx1⟩ := inB_iff.1 HBI.out
            obtain ⟨i, rfl⟩ : ∃ i : Nat, x = i := ⟨x.toNat, by omega⟩
            have hik : i < k := by omega
            have hiki : (i : Int) < (k : Int) := by omega
            obtain ⟨bb, off, rfl, _, e0, e1, e2, e3⟩ := Sl.at4 (Sl.below HL.out hs.out.1) (i := i) (by rw [HN.out]; exact hik)
            obtain ⟨Pk, E, S, hP, hE, hS, hp, he, hsz, hP1, hP2, hE2, hS2⟩ := HMS.out i hik
            obtain ⟨⟨nm, sz, per, dd⟩, hr⟩ : ∃ r, l.getD i msg0 = r := ⟨_, rfl⟩
            have hmk : msgAt l i = ⟨nm, sz, per, dd⟩ := hr
            rw [hr] at e0 e1 e2 e3
            rw [hmk] at hP hE hS
            simp only [msgC] at e0 e1 e2 e3 hP hE hS
            subst hP hE hS
            have HPE := Lib.hid hp
            have HEE := Lib.hid he
            have hmd : ((q : Nat) : Int).tmod (Pk : Int) = ((q % Pk : Nat) : Int) := by rw [Int.tmod_eq_emod_of_nonneg (by omega)]; rfl
            have hqd : ((q : Nat) : Int).tdiv (Pk : Int) = ((q / Pk : Nat) : Int) := by rw [Int.tdiv_eq_ediv_of_nonneg (by omega)]; rfl
            obtain ⟨md, hmde⟩ : ∃ md, q % Pk = md := ⟨_, rfl⟩
            obtain ⟨qt, hqte⟩ : ∃ qt, q / Pk = qt := ⟨_, rfl⟩
            have HMD := Lib.hid hmde
            have HQT := Lib.hid hqte
            rw [hmde] at hmd
            rw [hqte] at hqd
            clear hr hmk hp he hsz hmde hqte
            by_cases hdl : E ≤ md
            · have hdli : (E : Int) ≤ (md : Int) := by omega
              have hdd : decide ((E : Int) ≤ (md : Int)) = true := decide_eq_true hdli
              have HNO : Hid (¬ servQ l T) := Lib.hid fun h => by
                have h1 := servQ_slot h (s := q) (by rw [HCN.out]; exact hlq)
                unfold slotP at h1
                rw [HX.out] at h1
                rcases h1 with h1 | ⟨j, _, h2, h3⟩
                · omega
                · obtain rfl : j = i := by omega
                  change q % perN l j < (msgN l).dead j at h3
                  rw [HPE.out, HEE.out, HMD.out] at h3
                  omega
              go_wp2_with fail
              go_quiet ((go_at_call 41; exact (HIW.out _).mono fun e w' h => ⟨h.1, _, h.2.symm⟩))
              go_wp2_with fail
              exact HFIN.out false _ (by simpa using HNO.out) (below_drewN hs.out.1 _)
            · have hdd : decide ((E : Int) ≤ (md : Int)) = false := decide_eq_false (by omega)
              go_wp2_with fail
              go_quiet ((go_at_call 41; exact (HIW.out _).mono fun e w' h => ⟨h.1, _, h.2.symm⟩))
              go_wp2_with fail
              obtain ⟨w5, hw5⟩ : ∃ w5, wr.drewN nq = w5 := ⟨_, rfl⟩
              have hb5 : Below wr.heap.size wr w5 := by rw [← hw5]; exact below_drewN (Below.refl _ _) _
              have HB5 : Hid (Below w.heap.size w w5) := Lib.hid (hs.out.1.trans (hb5.mono hs.out.1.size))
              have HG5 := Lib.hid (hs.out.2.1.below hb5)
              obtain ⟨pi, hpi⟩ : ∃ pi, P i = pi := ⟨_, rfl⟩
              obtain ⟨ri, hri⟩ : ∃ ri, R i = ri := ⟨_, rfl⟩
              obtain ⟨cn, hcn⟩ : ∃ cn, rowC (getI T) (perN l i) i qt q = cn := ⟨_, rfl⟩
              have HPI := Lib.hid hpi
              have HCN2 := Lib.hid hcn
              have hcn1 : cn ≤ 1000 := by have := rowC_le (getI T) (perN l i) i qt q; omega
              have hqr : qt < ri := by
                rw [← hri, HR.out, HPE.out, ← HQT.out]
                refine (Nat.div_lt_iff_lt_mul (by omega)).2 ?_
                rw [Nat.div_mul_cancel (by have := HDIV.out i (by rw [HN.out]; exact hik); rwa [HPE.out] at this)]
                exact hlq
              have hqri : (qt : Int) < (ri : Int) := by omega
              have h0qt : (0 : Int) ≤ (qt : Int) := by omega
              have hqt2 : qt ≤ 1000 := by rw [← HQT.out]; exact Nat.le_trans (Nat.div_le_self _ _) (by omega)
              have h0i : (0 : Int) ≤ (i : Int) := by omega
              have HC4 : Hid (∀ w1, Below w5.heap.size w5 w1 → w1.cell? ⟨gb, i, none⟩ = some (.slice (some ⟨pi, 0, none⟩) ri ri) ∧ w1.cell? ⟨pi, qt, none⟩ = some (.int .i64 cn) ∧ w1.frozen? ⟨pi, qt, none⟩ = false ∧ w1.cell? ⟨bb, off + i * 4 + 2, none⟩ = some (.int .i64 Pk)) := Lib.hid fun w1 h1 => by
                have g1 := HG5.out.below h1
                have g2 := g1.cell hik (Nat.le_refl _)
                have g3 := g1.num hik (j := qt) (by rw [hri]; exact hqr)
                rw [hpi, hri] at g2
                rw [hpi] at g3
                rw [hcn] at g3
                refine ⟨g2, g3.1, g3.2, ?_⟩
                obtain ⟨bb', off', e', _, _, _, e22, _⟩ := Sl.at4 (Sl.below HL.out (HB5.out.trans (h1.mono HB5.out.size))) (i := i) (by rw [HN.out]; exact hik)
                injection e' with e'
                injection e' with ea eb _
                subst ea eb
                rw [e22]
                have := (Sl.at4 (Sl.below HL.out hs.out.1) (i := i) (by rw [HN.out]; exact hik))
                obtain ⟨bb2, off2, e2', _, _, _, e23, _⟩ := this
                injection e2' with e2'
                injection e2' with ea eb _
                subst ea eb
                rw [← e23]; exact e2
              rw [hw5]
              clear e0 e1 e2 e3 d0 hw5 hb5 hpi hcn hri
              refine wp_region_stepsM (by kernel_rfl) (by kernel_rfl) 15 (by decide) (fun bq w1 => if bq = true then ∃ w0, Below w5.heap.size w5 w0 ∧ w1 = w0.setCell ⟨pi, qt, none⟩ (.int .i64 (cn + 1 : Nat)) else Below w5.heap.size w5 w1) (fun _ _ _ => True)
                (fun ix u _ _ => match ix with
                  | 0 => u = .slice (some ⟨gb, 0, none⟩) k k
                  | 1 => u = .int .i64 i
                  | 2 => u = .pointer (some ⟨gb, i, none⟩)
                  | 3 => u = .slice (some ⟨pi, 0, none⟩) ri ri
                  | 4 => u = .int .i64 q
                  | 5 => u = .slice (some ⟨bb, off, none⟩) k c
                  | 6 => u = .int .i64 i
                  | 7 => u = .pointer (some ⟨bb, off + i * 4, none⟩)
                  | 8 => u = .pointer (some ⟨bb, off + i * 4 + 2, none⟩)
                  | 9 => u = .int .i64 Pk
                  | 10 => u = .int .i64 qt
                  | 11 => u = .pointer (some ⟨pi, qt, none⟩)
                  | 12 => u = .int .i64 cn
                  | 13 => u = .int .i64 (cn + 1 : Nat)
                  | 14 => u = .pointer (some ⟨pi, qt, none⟩)
                  | _ => True) (Below.refl _ _).drew (fun _ _ _ _ _ _ _ _ h _ => h) ?_ ?_
              · refine ⟨?_, ?_, ?_, ?_, ?_, ?_, ?_, ?_, ?_, ?_, ?_, ?_, ?_, ?_, ?_, ?_, trivial⟩
                · intro a w1 vs K bq Hb HJ HK HD HN kk
                  obtain rfl : bq = false := by cases bq with | false => rfl | true => exact absurd (Hb rfl).2 (by decide)
                  have HJ' : Below w5.heap.size w5 w1 := HJ
                  have e7 := HK 7 (by decide)
                  go_simp; exact kk _ _ (by simp) HJ trivial rfl
                · intro a w1 vs K bq Hb HJ HK HD HN kk
                  obtain rfl : bq = false := by cases bq with | false => rfl | true => exact absurd (Hb rfl).2 (by decide)
                  have HJ' : Below w5.heap.size w5 w1 := HJ
                  have e11 := HK 11 (by decide)
                  go_simp; exact kk _ _ (by simp) HJ trivial rfl
                · intro a w1 vs K bq Hb HJ HK HD HN kk
                  obtain rfl : bq = false := by cases bq with | false => rfl | true => exact absurd (Hb rfl).2 (by decide)
                  have HJ' : Below w5.heap.size w5 w1 := HJ
                  have e78 := (HD 0 _ 78 rfl rfl rfl).1.trans (HD 0 _ 78 rfl rfl rfl).2
                  have e79 := (HD 1 _ 79 rfl rfl rfl).1.trans (HD 1 _ 79 rfl rfl rfl).2
                  go_simp; exact kk _ _ (by simp) HJ trivial rfl
                · intro a w1 vs K bq Hb HJ HK HD HN kk
                  obtain rfl : bq = false := by cases bq with | false => rfl | true => exact absurd (Hb rfl).2 (by decide)
                  have HJ' : Below w5.heap.size w5 w1 := HJ
                  have e80 := (HD 2 _ 80 rfl rfl rfl).1.trans (HD 2 _ 80 rfl rfl rfl).2
                  have ca := (HC4.out w1 HJ').1
                  go_simp; exact kk _ _ (by simp) HJ trivial rfl
                · intro a w1 vs K bq Hb HJ HK HD HN kk
                  obtain rfl : bq = false := by cases bq with | false => rfl | true => exact absurd (Hb rfl).2 (by decide)
                  have HJ' : Below w5.heap.size w5 w1 := HJ
                  have e10 := HK 10 (by decide)
                  go_simp; exact kk _ _ (by simp) HJ trivial rfl
                · intro a w1 vs K bq Hb HJ HK HD HN kk
                  obtain rfl : bq = false := by cases bq with | false => rfl | true => exact absurd (Hb rfl).2 (by decide)
                  have HJ' : Below w5.heap.size w5 w1 := HJ
                  have e0 := HK 0 (by decide)
                  go_simp; exact kk _ _ (by simp) HJ trivial rfl
                · intro a w1 vs K bq Hb HJ HK HD HN kk
                  obtain rfl : bq = false := by cases bq with | false => rfl | true => exact absurd (Hb rfl).2 (by decide)
                  have HJ' : Below w5.heap.size w5 w1 := HJ
                  have e11 := HK 11 (by decide)
                  go_simp; exact kk _ _ (by simp) HJ trivial rfl
                · intro a w1 vs K bq Hb HJ HK HD HN kk
                  obtain rfl : bq = false := by cases bq with | false => rfl | true => exact absurd (Hb rfl).2 (by decide)
                  have HJ' : Below w5.heap.size w5 w1 := HJ
                  have e83 := (HD 5 _ 83 rfl rfl rfl).1.trans (HD 5 _ 83 rfl rfl rfl).2
                  have e84 := (HD 6 _ 84 rfl rfl rfl).1.trans (HD 6 _ 84 rfl rfl rfl).2
                  go_simp; exact kk _ _ (by simp) HJ trivial rfl
                · intro a w1 vs K bq Hb HJ HK HD HN kk
                  obtain rfl : bq = false := by cases bq with | false => rfl | true => exact absurd (Hb rfl).2 (by decide)
                  have HJ' : Below w5.heap.size w5 w1 := HJ
                  have e85 := (HD 7 _ 85 rfl rfl rfl).1.trans (HD 7 _ 85 rfl rfl rfl).2
                  go_simp; exact kk _ _ (by simp) HJ trivial rfl
                · intro a w1 vs K bq Hb HJ HK HD HN kk
                  obtain rfl : bq = false := by cases bq with | false => rfl | true => exact absurd (Hb rfl).2 (by decide)
                  have HJ' : Below w5.heap.size w5 w1 := HJ
                  have e86 := (HD 8 _ 86 rfl rfl rfl).1.trans (HD 8 _ 86 rfl rfl rfl).2
                  have ca := (HC4.out w1 HJ').2.2.2
                  go_simp; exact kk _ _ (by simp) HJ trivial rfl
                · intro a w1 vs K bq Hb HJ HK HD HN kk
                  obtain rfl : bq = false := by cases bq with | false => rfl | true => exact absurd (Hb rfl).2 (by decide)
                  have HJ' : Below w5.heap.size w5 w1 := HJ
                  have e82 := (HD 4 _ 82 rfl rfl rfl).1.trans (HD 4 _ 82 rfl rfl rfl).2
                  have e87 := (HD 9 _ 87 rfl rfl rfl).1.trans (HD 9 _ 87 rfl rfl rfl).2
                  have hne : ¬ Pk = 0 := by omega
                  have hws : IntKind.i64.wrap ((qt : Nat) : Int) = (qt : Int) := IntWalk.i64_in _ (by omega)
                  go_simp; exact kk _ _ (by simp) HJ' trivial (by first | rfl | (show Value.int _ _ = Value.int _ _; rw [hws]))
                · intro a w1 vs K bq Hb HJ HK HD HN kk
                  obtain rfl : bq = false := by cases bq with | false => rfl | true => exact absurd (Hb rfl).2 (by decide)
                  have HJ' : Below w5.heap.size w5 w1 := HJ
                  have e81 := (HD 3 _ 81 rfl rfl rfl).1.trans (HD 3 _ 81 rfl rfl rfl).2
                  have e88 := (HD 10 _ 88 rfl rfl rfl).1.trans (HD 10 _ 88 rfl rfl rfl).2
                  go_simp; exact kk _ _ (by simp) HJ trivial rfl
                · intro a w1 vs K bq Hb HJ HK HD HN kk
                  obtain rfl : bq = false := by cases bq with | false => rfl | true => exact absurd (Hb rfl).2 (by decide)
                  have HJ' : Below w5.heap.size w5 w1 := HJ
                  have e89 := (HD 11 _ 89 rfl rfl rfl).1.trans (HD 11 _ 89 rfl rfl rfl).2
                  have ca := (HC4.out w1 HJ').2.1
                  go_simp; exact kk _ _ (by simp) HJ trivial rfl
                · intro a w1 vs K bq Hb HJ HK HD HN kk
                  obtain rfl : bq = false := by cases bq with | false => rfl | true => exact absurd (Hb rfl).2 (by decide)
                  have HJ' : Below w5.heap.size w5 w1 := HJ
                  have e90 := (HD 12 _ 90 rfl rfl rfl).1.trans (HD 12 _ 90 rfl rfl rfl).2
                  have hws : IntKind.i64.wrap ((cn : Int) + 1) = ((cn + 1 : Nat) : Int) := by rw [IntWalk.i64_in _ (by omega)]; rfl
                  go_simp; exact kk _ _ (by simp) HJ' trivial (by first | rfl | (show Value.int _ _ = Value.int _ _; rw [hws]))
                · intro a w1 vs K bq Hb HJ HK HD HN kk
                  obtain rfl : bq = false := by cases bq with | false => rfl | true => exact absurd (Hb rfl).2 (by decide)
                  have HJ' : Below w5.heap.size w5 w1 := HJ
                  have e81 := (HD 3 _ 81 rfl rfl rfl).1.trans (HD 3 _ 81 rfl rfl rfl).2
                  have e88 := (HD 10 _ 88 rfl rfl rfl).1.trans (HD 10 _ 88 rfl rfl rfl).2
                  go_simp; exact kk _ _ (by simp) HJ trivial rfl
                · intro a w1 vs K bq Hb HJ HK HD HN kk
                  obtain rfl : bq = false := by cases bq with | false => rfl | true => exact absurd rfl (Hb rfl).1
                  have HJ' : Below w5.heap.size w5 w1 := HJ
                  have e92 := (HD 14 _ 92 rfl rfl rfl).1.trans (HD 14 _ 92 rfl rfl rfl).2
                  have e91 := (HD 13 _ 91 rfl rfl rfl).1.trans (HD 13 _ 91 rfl rfl rfl).2
                  have ca := (HC4.out w1 HJ').2.1
                  have cf := (HC4.out w1 HJ').2.2.1
                  go_simp; exact kk undef _ (by simp) ⟨w1, HJ', rfl⟩ trivial trivial
              · intro vs w6 hw6 hrr
                obtain ⟨w0, hb6, rfl⟩ := hw6
                have HNX : Hid (Below w.heap.size w (w0.setCell ⟨pi, qt, none⟩ (.int .i64 (cn + 1 : Nat))) ∧ GotAt (w0.setCell ⟨pi, qt, none⟩ (.int .i64 (cn + 1 : Nat))) w.heap.size gb k k P R (fun i r => ((rowC (getI T) (perN l i) i r (q + 1) : Nat) : Int)) ∧ ∀ s, s < q + 1 → slotP (msgN l) (getI T) s) := Lib.hid (by
                  have hlo := HG5.out.lo.2 i hik
                  rw [HPI.out] at hlo
                  refine ⟨(HB5.out.trans (hb6.mono HB5.out.size)).setCell (p := ⟨pi, qt, none⟩) hlo _, ?_, fun s h1 => ?_⟩
                  · have h7 := (HG5.out.below hb6).set hik qt ((cn + 1 : Nat) : Int)
                    rw [HPI.out] at h7
                    refine h7.congr fun a ha r _ => ?_
                    rw [HSN.out]
                    by_cases e : a = i
                    · subst e
                      have hm : isM (getI T) a q = true := by unfold isM; rw [HX.out]; exact decide_eq_true rfl
                      rw [hm, Bool.true_and, HPE.out, HQT.out]
                      by_cases e2 : r = qt
                      · subst e2
                        rw [if_pos ⟨rfl, rfl⟩, decide_eq_true rfl, if_pos rfl, ← HPE.out, HCN2.out]
                      · rw [if_neg (fun h => e2 h.2), decide_eq_false (fun h => e2 h.symm)]; rfl
                    · have hm : isM (getI T) a q = false := by unfold isM; rw [HX.out]; exact decide_eq_false (by omega)
                      rw [if_neg (fun h => e h.1), hm, Bool.false_and]; rfl
                  · by_cases e : s = q
                    · subst e
                      refine Or.inr ⟨i, ?_, HX.out, ?_⟩
                      · show i < l.length
                        rw [HN.out]; exact hik
                      · show s % perN l i < (msgN l).dead i
                        rw [HPE.out, HEE.out, HMD.out]; omega
                    · exact hs.out.2.2 s (by omega))
                obtain ⟨w7, hw7⟩ : ∃ w7, w0.setCell ⟨pi, qt, none⟩ (.int .i64 (cn + 1 : Nat)) = w7 := ⟨_, rfl⟩
                rw [hw7] at HNX ⊢
                clear hrr hb6 hw7
                simp only [putAll, Act.put, List.setIfInBounds_toArray, List.set_cons_zero, List.set_cons_succ]
                go_wp2_with fail
                go_roundw
                case rel => exact ⟨q + 1, by omega, by go_num, HNX⟩
                case measure => simp [intOf]; omega
        · obtain rfl : q = nt := by omega
          have HSL := Lib.hid hs.out.2.2
          have HG6 := Lib.hid hs.out.2.1
          have HB6 := Lib.hid hs.out.1
          clear hs
          go_wp2_with fail
          go_loopw [96] (fun i w2 => ∃ j : Nat, j ≤ k ∧ i = .int .i64 j ∧ Hid (Below w.heap.size w w2 ∧ GotAt w2 w.heap.size gb k k P R (fun i r => ((rowC (getI T) (perN l i) i r q : Nat) : Int)) ∧ ∀ a, a < j → ∀ r, r < R a → rowC (getI T) (perN l a) a r q = (msgN l).size a)) (fun i _ => k - (intOf i).toNat)
          case atStart => exact ⟨0, Nat.zero_le _, rfl, Lib.hid ⟨HB6.out, HG6.out, fun s hs => absurd hs (Nat.not_lt_zero s)⟩⟩
          case round =>
            clear HG6 HB6
            obtain ⟨j, hj, rfl, hs⟩ := hrel
            by_cases hjk : j < k
            · have hjki : (j : Int) < (k : Int) := by omega
              have h0j : (0 : Int) ≤ (j : Int) := by omega
              obtain ⟨bb, off, rfl, _, e0, e1, e2, e3⟩ := Sl.at4 (Sl.below HL.out hs.out.1) (i := j) (by rw [HN.out]; exact hjk)
              obtain ⟨Pk, E, S, hP, hE, hS, hp, he, hsz, hP1, hP2, hE2, hS2⟩ := HMS.out j hjk
              obtain ⟨⟨nm, sz, per, dd⟩, hr⟩ : ∃ r, l.getD j msg0 = r := ⟨_, rfl⟩
              have hmk : msgAt l j = ⟨nm, sz, per, dd⟩ := hr
              rw [hr] at e0 e1 e2 e3
              rw [hmk] at hP hE hS
              simp only [msgC] at e0 e1 e2 e3 hP hE hS
              subst hP hE hS
              have HSZ := Lib.hid hsz
              obtain ⟨w3, hw3⟩ : ∃ w3, wr.alloc (.cells #[.string nm, .int .i64 S, .int .i64 Pk, .int .i64 E] 80) = w3 := ⟨_, rfl⟩
              have hb3 : Below wr.heap.size wr w3 := by rw [← hw3]; exact (Below.refl _ _).alloc (Nat.le_refl _) _
              have HB3 : Hid (Below w.heap.size w w3) := Lib.hid (hs.out.1.trans (hb3.mono hs.out.1.size))
              have HG3 := Lib.hid (hs.out.2.1.below hb3)
              obtain ⟨mb, hmb⟩ : ∃ mb, wr.heap.size = mb := ⟨_, rfl⟩
              have HK3 : Hid (Bk w3 mb 80 #[.string nm, .int .i64 S, .int .i64 Pk, .int .i64 E]) := Lib.hid (by rw [← hw3, ← hmb]; exact Bk.new _ _ _)
              obtain ⟨pj, hpj⟩ : ∃ pj, P j = pj := ⟨_, rfl⟩
              obtain ⟨rj, hrj⟩ : ∃ rj, R j = rj := ⟨_, rfl⟩
              have gc : w3.cell? ⟨gb, j, none⟩ = some (.slice (some ⟨pj, 0, none⟩) rj rj) := by
                have := HG3.out.cell hjk (Nat.le_refl _)
                rw [hpj, hrj] at this; exact this
              have HPJ := Lib.hid hpj
              have HRJ := Lib.hid hrj
              have hrj1 : rj ≤ 1000 := by rw [← hrj, HR.out]; exact Nat.le_trans (Nat.div_le_self _ _) hC2
              clear hr hmk hp he hsz hb3 hpj hrj
              go_upto_region 21 with (fail)
              clear hw3 e0 e1 e2 e3 hmb
              go_wp2_with fail
              go_loopw [106] (fun i w2 => ∃ r : Nat, r ≤ rj ∧ i = .int .i64 r ∧ Hid (Below w3.heap.size w3 w2 ∧ ∀ a, a < r → rowC (getI T) (perN l j) j a q = (msgN l).size j)) (fun i _ => rj - (intOf i).toNat)
              case atStart => exact ⟨0, Nat.zero_le _, rfl, Lib.hid ⟨Below.refl _ _, fun s hs => absurd hs (Nat.not_lt_zero s)⟩⟩
              case round =>
                obtain ⟨r, hr, rfl, hs2⟩ := hrel
                by_cases hrl : r < rj
                · have hri : (r : Int) < (rj : Int) := by omega
                  have h0r : (0 : Int) ≤ (r : Int) := by omega
                  obtain ⟨v, hv⟩ : ∃ v, rowC (getI T) (perN l j) j r q = v := ⟨_, rfl⟩
                  have HV := Lib.hid hv
                  have d0 : wr.cell? ⟨pj, r, none⟩ = some (.int .i64 v) := by
                    have := ((HG3.out.below hs2.out.1).num hjk (j := r) (by rw [HRJ.out]; exact hrl)).1
                    rw [HPJ.out] at this
                    rw [hv] at this; exact this
                  have d1 : wr.cell? ⟨mb, 1, none⟩ = some (.int .i64 S) := (HK3.out.below hs2.out.1 HK3.out.lt).cell 1
                  clear hv
                  by_cases hvs : v = S
                  · subst hvs
                    go_wp2_with fail
                    go_roundw
                    case rel => exact ⟨r + 1, by omega, by go_num, Lib.hid ⟨hs2.out.1, fun a ha => by
                      by_cases e : a = r
                      · subst e; rw [HV.out, HSZ.out]
                      · exact hs2.out.2 a (by omega)⟩⟩
                    case measure => simp [intOf]; omega
                  · have hvsi : ¬ (v : Int) = (S : Int) := by omega
                    have HNO : Hid (¬ servQ l T) := Lib.hid fun h => by
                      have h1 := servQ_row h (i := j) (r := r) (by rw [HN.out]; exact hjk) (by
                        have := HR.out j
                        rw [HRJ.out] at this
                        rw [HCN.out, ← this]; exact hrl)
                      rw [HCN.out, HV.out, HSZ.out] at h1
                      exact hvs h1
                    go_wp2_with fail
                    exact HFIN.out false _ (by simpa using HNO.out) (HB3.out.trans (hs2.out.1.mono HB3.out.size))
                · obtain rfl : r = rj := by omega
                  go_wp2_with fail
                  go_roundw
                  case rel =>
                    have HZ : Hid (Below w.heap.size w wr ∧ GotAt wr w.heap.size gb k k P R (fun i r => ((rowC (getI T) (perN l i) i r q : Nat) : Int)) ∧ ∀ a, a < j + 1 → ∀ r, r < R a → rowC (getI T) (perN l a) a r q = (msgN l).size a) := Lib.hid ⟨HB3.out.trans (hs2.out.1.mono HB3.out.size), HG3.out.below hs2.out.1, fun a ha b hb => by
                      by_cases e : a = j
                      · subst e; exact hs2.out.2 b (by rw [← HRJ.out]; exact hb)
                      · exact hs.out.2.2 a (by omega) b hb⟩
                    first | exact ⟨j + 1, by omega, by go_num, HZ⟩ | ((repeat apply Exists.intro); exact ⟨⟨j + 1, by omega, by go_num, HZ⟩, rfl⟩)
                  case measure => simp [intOf]; omega
            · obtain rfl : j = k := by omega
              go_wp2_with fail
              refine HFIN.out true _ ?_ hs.out.1
              exact ⟨fun _ => servQ_of HER.out HCN.out HNT.out HSL.out fun i hi r hr => hs.out.2.2 i (by rw [← HN.out]; exact hi) r (by rw [HR.out]; exact hr), fun _ => rfl⟩
end Go.Proofs.Ytnmccbjdfdbgpaa
