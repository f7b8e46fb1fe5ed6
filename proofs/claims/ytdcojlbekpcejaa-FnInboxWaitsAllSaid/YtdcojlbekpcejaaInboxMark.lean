/- Numbers and inboxes marked, and the marks found again; numbers and inboxes compared. -/
import Derived.Test.YtdcojlbekpcejaaInboxEq
namespace Go.Proofs.Ytdcojlbekpcejaa
open Go.RowKit

def marksI (k n : Nat) : List Int := (List.range n).map (fun (i : Nat) => ((k + i : Nat) : Int))
theorem marksI_len (k n : Nat) : (marksI k n).length = n := by simp [marksI]
theorem marksI_at {k n i : Nat} (h : i < n) : (marksI k n)[i]? = some ((k + i : Nat) : Int) := by simp [marksI, h]
theorem marksI_snoc (k n : Nat) : marksI k (n + 1) = marksI k n ++ [((k + n : Nat) : Int)] := by simp [marksI, List.range_succ]
def mkdI (k : Nat) (l : List Int) (j : Nat) : List Int := marksI k j ++ l.drop j
theorem mkdI_len {k : Nat} {l : List Int} {j : Nat} (h : j ≤ l.length) : (mkdI k l j).length = l.length := by simp [mkdI, marksI_len]; omega
theorem mkdI_step {k : Nat} {l : List Int} {j : Nat} (h : j < l.length) : (mkdI k l j).set j ((k + j : Nat) : Int) = mkdI k l (j + 1) := by
  have hd : l.drop j = l[j] :: l.drop (j + 1) := List.drop_eq_getElem_cons h
  unfold mkdI
  rw [hd, List.set_append_right _ _ (by rw [marksI_len]; exact Nat.le_refl _), marksI_len, Nat.sub_self, List.set_cons_zero, marksI_snoc]
  simp
theorem mkdI_all (k : Nat) (l : List Int) : mkdI k l l.length = marksI k l.length := by simp [mkdI]

set_option maxHeartbeats 400000 in
theorem markIntS_c (B : Nat) (A : Option Addr) (n c k : Nat) (l : List Int) (w : World) (hown : w.ownsRow B 3 1 (.slice A n c) n (l.map (Value.int .i64))) (hk2 : k + n ≤ 100000000) : Calls Try.prog 31 #[.slice A n c, .int .i64 k] w fun e w' =>
    e = .returned (.int .i64 ((k + n : Nat) : Int)) ∧ w'.ownsRow B 3 1 (.slice A n c) n ((marksI k n).map (Value.int .i64)) ∧ w.grownBy w' (Value.slice A n c).ownBlock := by
  have hs := SlI.of_own hown
  have HL := Lib.hid hs.len
  have hcap := hs.cap
  have hmax := hs.max
  go_enter Try.func31, Try.ntmps31
  go_wp2_with fail
  go_loopw [5, 1] (fun i m wr => ∃ j q : Nat, j ≤ n ∧ q = k + j ∧ i = .int .i64 j ∧ m = .int .i64 q ∧ wr.ownsRow B 3 1 (.slice A n c) n ((mkdI k l j).map (Value.int .i64)) ∧ w.grownBy wr (Value.slice A n c).ownBlock) (fun i _ _ => n - (intOf i).toNat)
  case atStart => exact ⟨0, k, Nat.zero_le _, rfl, rfl, rfl, hown, World.grownBy.refl w _⟩
  case round =>
    obtain ⟨j, q, hj, hq, rfl, rfl, ho, hg⟩ := hrel
    have HQ := Lib.hid hq
    have q2 : q ≤ 100000000 := by omega
    clear hq
    by_cases hlt : j < n
    · obtain ⟨g, cap, hA, hgB, hgL⟩ := ho.form (by omega)
      obtain ⟨rfl, _, rfl⟩ := slice_inj hA
      have i0 : (0 : Int) ≤ (j : Int) := by omega
      have i1 : (j : Int) < (n : Int) := by omega
      obtain ⟨⟨v0, hco⟩, hcf⟩ := own_at ho (j := j) (by omega)
      go_wp2_with fail
      go_roundw
      case rel =>
        have hq := HQ.out
        refine ⟨j + 1, q + 1, by omega, by omega, by go_num, by go_num, ?_, hg.trans (gr_cell _ g _ _)⟩
        have h1 := (ho.stored j (.int .i64 (q : Int))).1
        rw [hq, map_set, mkdI_step (by rw [HL.out]; exact hlt)] at h1
        rw [hq]
        exact h1
      case measure => simp [intOf]; omega
    · obtain rfl : j = n := by omega
      go_wp2_with fail
      go_ret
      have hq := HQ.out
      subst hq
      refine ⟨rfl, ?_, hg⟩
      have : mkdI k l j = marksI k j := by rw [← HL.out, mkdI_all]
      rw [this] at ho
      exact ho

set_option maxHeartbeats 400000 in
theorem heldIntS_c (A : Option Addr) (n c k : Nat) (w : World) (h : SlI w A n c (marksI k n)) (hk2 : k + n ≤ 100000000) : Calls Try.prog 32 #[.slice A n c, .int .i64 k] w fun e w' =>
    e = .returned (.int .i64 ((k + n : Nat) : Int)) ∧ Below w.heap.size w w' := by
  have hcap := h.cap
  have hmax := h.max
  go_enter Try.func32, Try.ntmps32
  go_wp2_with fail
  go_loopw [5, 1] (fun i m wr => ∃ j q : Nat, j ≤ n ∧ q = k + j ∧ i = .int .i64 j ∧ m = .int .i64 q ∧ Below w.heap.size w wr) (fun i _ _ => n - (intOf i).toNat)
  case atStart => exact ⟨0, k, Nat.zero_le _, rfl, rfl, rfl, Below.refl _ _⟩
  case round =>
    obtain ⟨j, q, hj, hq, rfl, rfl, hbr⟩ := hrel
    have HQ := Lib.hid hq
    have q2 : q ≤ 100000000 := by omega
    by_cases hlt : j < n
    · obtain ⟨b, off, x, rfl, hx, hc0⟩ := SlI.get (h.bel hbr) hlt
      rw [marksI_at hlt, ← hq] at hx
      obtain rfl : (q : Int) = x := by simpa using hx
      clear hx hq
      have i0 : (0 : Int) ≤ (j : Int) := by omega
      have i1 : (j : Int) < (n : Int) := by omega
      go_wp2_with fail
      go_roundw
      case rel =>
        have hq := HQ.out
        exact ⟨j + 1, q + 1, by omega, by omega, by go_num, by go_num, by first | exact hbr | exact bel_dr hbr | exact bel_drN hbr _⟩
      case measure => simp [intOf]; omega
    · obtain rfl : j = n := by omega
      clear hq
      go_wp2_with fail
      go_ret
      have hq := HQ.out
      subst hq
      exact ⟨rfl, hbr⟩

theorem markInbox_c (B : Nat) (a : Int) (A : Option Addr) (n c k : Nat) (l : List Int) (w : World) (hown : w.ownsRow B 3 1 (.slice A n c) n (l.map (Value.int .i64))) (hk2 : k + n ≤ 100000000) : Calls Try.prog 30 #[.agg #[.int .i64 a, .slice A n c], .int .i64 k] w fun e w' =>
    e = .returned (.int .i64 ((k + n : Nat) : Int)) ∧ w'.ownsRow B 3 1 (.slice A n c) n ((marksI k n).map (Value.int .i64)) ∧ w.grownBy w' (Value.slice A n c).ownBlock := by
  go_enter Try.func30, Try.ntmps30
  go_wp2_with fail
  refine (markIntS_c B A n c k l _ (hown.alloc _) hk2).mono ?_
  rintro e w1 ⟨rfl, ho1, hg1⟩
  go_wp2_with fail
  go_ret
  exact ⟨rfl, ho1, (World.grownBy_alloc w _ _).trans hg1⟩

theorem heldInbox_c (a : Int) (A : Option Addr) (n c k : Nat) (w : World) (h : SlI w A n c (marksI k n)) (hk2 : k + n ≤ 100000000) : Calls Try.prog 37 #[.agg #[.int .i64 a, .slice A n c], .int .i64 k] w fun e w' =>
    e = .returned (.int .i64 ((k + n : Nat) : Int)) ∧ Below w.heap.size w w' := by
  have k0 : (0 : Int) ≤ ((k + n : Nat) : Int) := by omega
  have k1 : decide (((k + n : Nat) : Int) < 0) = false := decide_eq_false (by omega)
  go_enter Try.func37, Try.ntmps37
  go_wp2_with fail
  refine (heldIntS_c A n c k _ (h.al _) hk2).mono ?_
  rintro e w1 ⟨rfl, hb1⟩
  go_wp2_with fail
  go_ret
  exact ⟨rfl, by (repeat' first | assumption | exact bel_refl _ | refine bel_al ?_ _ | refine bel_dr ?_ | refine bel_drN ?_ _ | refine bel_nx ?_ (by assumption) | (refine bel_set ?_ (by first | omega | (simp; omega)) _))⟩

theorem sameInts_c (A B : Option Addr) (n c n' c' : Nat) (l m : List Int) (w : World) (h : SlI w A n c l) (h' : SlI w B n' c' m) : Calls Try.prog 28 #[.slice A n c, .slice B n' c'] w fun e w' =>
    e = .returned (.bool (decide (l = m))) ∧ Below w.heap.size w w' := by
  have HL := Lib.hid h.len
  have HM := Lib.hid h'.len
  have hcap := h.cap
  have hmax := h.max
  have hcap' := h'.cap
  have hmax' := h'.max
  by_cases hn : n = n'
  · subst hn
    go_enter Try.func28, Try.ntmps28
    go_wp2_with fail
    go_loopw [5] (fun i wr => ∃ k q : Nat, k ≤ n ∧ i = .int .i64 k ∧ wr = w.drewN q ∧ Hid (∀ j, j < k → l[j]? = m[j]?)) (fun i _ => n - (intOf i).toNat)
    case atStart => exact ⟨0, 0, Nat.zero_le _, rfl, rfl, Lib.hid (fun j h => by omega)⟩
    case round =>
      obtain ⟨k, q, hk, rfl, rfl, H⟩ := hrel
      by_cases hlt : k < n
      · obtain ⟨b, off, x, rfl, hx, hcx⟩ := SlI.get h hlt
        obtain ⟨b', off', y, rfl, hy, hcy⟩ := SlI.get h' hlt
        have HX := Lib.hid hx
        have HY := Lib.hid hy
        clear hx hy
        have k0 : (0 : Int) ≤ (k : Int) := by omega
        have k1 : (k : Int) < (n : Int) := by omega
        by_cases hxy : x = y
        · subst hxy
          go_wp2_with fail
          go_quiet (fail)
          go_wp2_with fail
          go_roundw
          case rel => exact ⟨k + 1, q + nq, by omega, by go_num, rfl, Lib.hid (upto_next H.out HX.out HY.out)⟩
          case measure => simp [intOf]; omega
        · go_wp2_with fail
          go_quiet (fail)
          go_wp2_with fail
          go_ret
          exact ⟨ret_bool (decide_eq_false (list_ne_at k HX.out HY.out hxy)).symm, bel_drN (bel_drN (bel_refl _) _) _⟩
      · go_wp2_with fail
        go_ret
        exact ⟨ret_bool (decide_eq_true (list_eq_of (by rw [HL.out, HM.out]) (fun j hj => H.out j (by rw [HL.out] at hj; omega)))).symm, bel_drN (bel_refl _) _⟩
  · have hb : ((n : Int) == (n' : Int)) = false := by simp; omega
    go_enter Try.func28, Try.ntmps28
    go_wp2_with fail
    go_ret
    exact ⟨ret_bool (decide_eq_false (list_ne_len (by rw [HL.out, HM.out]; exact hn))).symm, bel_refl _⟩

theorem sameInbox_c (a b : Int) (A B : Option Addr) (n c n' c' : Nat) (l m : List Int) (w : World) (h : SlI w A n c l) (h' : SlI w B n' c' m) : Calls Try.prog 36 #[.agg #[.int .i64 a, .slice A n c], .agg #[.int .i64 b, .slice B n' c']] w fun e w' =>
    e = .returned (.bool (decide (a = b ∧ l = m))) ∧ Below w.heap.size w w' := by
  by_cases hab : a = b
  · subst hab
    go_enter Try.func36, Try.ntmps36
    go_wp2_with fail
    refine (sameInts_c A B n c n' c' l m _ (by first | exact (h.al _).al _ | exact ((h.al _).al _).dr | exact ((h.al _).al _).drN _) (by first | exact (h'.al _).al _ | exact ((h'.al _).al _).dr | exact ((h'.al _).al _).drN _)).mono ?_
    rintro e w1 ⟨rfl, hb1⟩
    go_wp2_with fail
    go_ret
    exact ⟨ret_bool (by simp), by (repeat' first | assumption | exact bel_refl _ | refine bel_al ?_ _ | refine bel_dr ?_ | refine bel_drN ?_ _ | refine bel_nx ?_ (by assumption) | (refine bel_set ?_ (by first | omega | (simp; omega)) _))⟩
  · have e2 : (a == b) = false := by simpa using hab
    have HN := Lib.hid (decide_eq_false (p := a = b ∧ l = m) (fun h => hab h.1))
    clear hab
    go_enter Try.func36, Try.ntmps36
    go_wp2_with fail
    go_ret
    exact ⟨ret_bool HN.out.symm, by (repeat' first | assumption | exact bel_refl _ | refine bel_al ?_ _ | refine bel_dr ?_ | refine bel_drN ?_ _ | refine bel_nx ?_ (by assumption) | (refine bel_set ?_ (by first | omega | (simp; omega)) _))⟩

end Go.Proofs.Ytdcojlbekpcejaa
