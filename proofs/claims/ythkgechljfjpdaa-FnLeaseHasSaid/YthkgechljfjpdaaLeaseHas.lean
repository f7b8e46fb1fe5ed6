/- Who has a run: the walks over the program's and the reference's LeaseHas. -/
import Derived.Test.YthkgechljfjpdaaLeaseAt
import Derived.Test.YthkgechljfjpdaaLeases
namespace Go.Proofs.Ythkgechljfjpdaa
open Go.RowKit

def timeB (t : Int) : Bool := decide (0 ≤ t) && decide (t ≤ 9999)
theorem timeB_iff {t : Int} : timeB t = true ↔ 0 ≤ t ∧ t ≤ 9999 := by unfold timeB; rw [Bool.and_eq_true, decide_eq_true_iff, decide_eq_true_iff]

/-- Who has a run. -/
def hasF (l : List R3) (t : Int) (s : ByteArray) : Int :=
  if leasesB l = true ∧ timeB t = true ∧ nameB s = true then (match l.find? (fun r => decide (r.1 = s)) with | some r => if t < r.2.2 then r.2.1 else 0 | none => 0) else -1

theorem hasF_no1 {l : List R3} {t : Int} {s : ByteArray} (h : leasesB l = false) : hasF l t s = -1 := by simp [hasF, h]
theorem hasF_no2 {l : List R3} {t : Int} {s : ByteArray} (h : timeB t = false) : hasF l t s = -1 := by simp [hasF, h]
theorem hasF_no3 {l : List R3} {t : Int} {s : ByteArray} (h : nameB s = false) : hasF l t s = -1 := by simp [hasF, h]
theorem find_none {l : List R3} {s : ByteArray} (h : ∀ r ∈ l, r.1 ≠ s) : l.find? (fun r => decide (r.1 = s)) = none := by
  rw [List.find?_eq_none]; intro r hr; simpa using h r hr
theorem find_some {l : List R3} {s : ByteArray} {k : Nat} {r : R3} (hk : l[k]? = some r) (hr : r.1 = s) (H : ∀ j, j < k → ∀ r, l[j]? = some r → r.1 ≠ s) : l.find? (fun r => decide (r.1 = s)) = some r := by
  obtain ⟨hl, he⟩ := List.getElem?_eq_some_iff.1 hk
  rw [List.find?_eq_some_iff_getElem]
  exact ⟨decide_eq_true hr, k, hl, he, fun j hj => by simpa using H j hj _ (List.getElem?_eq_getElem (by omega))⟩
theorem hasF_none {l : List R3} {t : Int} {s : ByteArray} (h1 : leasesB l = true) (h2 : timeB t = true) (h3 : nameB s = true) (h : ∀ r ∈ l, r.1 ≠ s) : hasF l t s = 0 := by
  simp [hasF, h1, h2, h3, find_none h]
theorem hasF_some {l : List R3} {t : Int} {s : ByteArray} (h1 : leasesB l = true) (h2 : timeB t = true) (h3 : nameB s = true) {k : Nat} {r : R3} (hk : l[k]? = some r) (hr : r.1 = s) (H : ∀ j, j < k → ∀ r, l[j]? = some r → r.1 ≠ s) :
    hasF l t s = if t < r.2.2 then r.2.1 else 0 := by
  simp [hasF, h1, h2, h3, find_some hk hr H]

theorem isTime_b (t : Int) (b : Bool) (w : World) (hb : timeB t = b) : Calls Try.prog 40 #[.int .i64 t] w fun e w' => e = .returned (.bool b) ∧ w' = w := by
  have HB := Lib.hid hb
  clear hb
  by_cases h1 : 0 ≤ t
  all_goals by_cases h2 : t ≤ 9999
  all_goals
    go_enter Try.func40, Try.ntmps40
    go_wp2
    go_ret
    exact ⟨ret_bool (by rw [← HB.out]; simp [timeB, h1, h2]), rfl⟩

set_option maxHeartbeats 1000000 in
theorem implLeaseHas_c (A : Option Addr) (n c : Nat) (l : List R3) (t : Int) (s : ByteArray) (w : World) (h : SlR w A n c l) (hz : SzR l) (hs : s.size ≤ 9223372036854775807) : Calls Try.prog 26 #[.slice A n c, .int .i64 t, .string s] w fun e w' =>
    e = .returned (.int .i64 (hasF l t s)) ∧ Below w.heap.size w w' := by
  have HL := Lib.hid h.len
  have hcap := h.cap
  have hmax := h.max
  go_enter Try.func26, Try.ntmps26
  go_wp2_with fail
  refine (implLeasesValid_c _ _ _ l _ h hz).mono ?_
  rintro e w1 ⟨rfl, hb1⟩
  have h := h.bel hb1
  cases hv : leasesB l
  · have HF := Lib.hid (hasF_no1 (t := t) (s := s) hv)
    clear hv
    go_wp2_with fail
    go_ret
    exact ⟨ret_int HF.out.symm, hb1⟩
  have HV := Lib.hid hv
  clear hv
  go_wp2_with fail
  obtain ⟨bt, ht⟩ : ∃ b, timeB t = b := ⟨_, rfl⟩
  refine (isTime_b t bt _ ht).mono ?_
  rintro e w2 ⟨rfl, rfl⟩
  have HT := Lib.hid ht
  clear ht
  cases bt
  · go_wp2_with fail
    go_ret
    exact ⟨ret_int (hasF_no2 HT.out).symm, hb1⟩
  go_wp2_with fail
  obtain ⟨bn, hn⟩ : ∃ b, nameB s = b := ⟨_, rfl⟩
  refine (implNameValid_b s bn _ hs hn).mono ?_
  rintro e w2 ⟨rfl, rfl⟩
  have HN := Lib.hid hn
  clear hn
  cases bn
  · go_wp2_with fail
    go_ret
    exact ⟨ret_int (hasF_no3 HN.out).symm, hb1⟩
  go_wp2_with fail
  refine (leaseAt_c _ _ _ l s _ h).mono ?_
  rintro e w3 ⟨rfl, hb3⟩
  have h := h.bel hb3
  rcases atR_cases l s with ⟨ha, hall⟩ | ⟨k, ⟨s', x, y⟩, ha, hk, hr, H⟩
  · rw [ha]
    have HF := Lib.hid (hasF_none HV.out HT.out HN.out hall)
    clear ha hall
    go_wp2_with fail
    go_ret
    exact ⟨ret_int HF.out.symm, bel_nx hb1 hb3⟩
  · rw [ha]
    have HF := Lib.hid (hasF_some HV.out HT.out HN.out hk hr H)
    have hkn : k < n := by rw [← HL.out]; exact (List.getElem?_eq_some_iff.1 hk).1
    obtain ⟨b, off, s1, x1, y1, rfl, hx, hc0, hc1, hc2⟩ := SlR.get h hkn
    rw [hk] at hx
    cases hx
    clear ha hk H hr
    have i0 : (0 : Int) ≤ (k : Int) := by omega
    have i1 : (k : Int) < (n : Int) := by omega
    by_cases hy : t < y
    · have hd : decide (t < y) = true := decide_eq_true hy
      go_wp2_with fail
      go_ret
      exact ⟨ret_int (by rw [HF.out, if_pos hy]), bel_nx hb1 hb3⟩
    · have hd : decide (t < y) = false := decide_eq_false hy
      go_wp2_with fail
      go_ret
      exact ⟨ret_int (by rw [HF.out, if_neg (by omega)]), bel_nx hb1 hb3⟩

set_option maxHeartbeats 1000000 in
theorem specLeaseHas_c (A : Option Addr) (n c : Nat) (l : List R3) (t : Int) (s : ByteArray) (w : World) (h : SlR w A n c l) (hz : SzR l) (hs : s.size ≤ 9223372036854775807) : Calls Try.prog 27 #[.slice A n c, .int .i64 t, .string s] w fun e w' =>
    e = .returned (.int .i64 (hasF l t s)) ∧ Below w.heap.size w w' := by
  have HL := Lib.hid h.len
  have hcap := h.cap
  have hmax := h.max
  go_enter Try.func27, Try.ntmps27
  go_wp2_with fail
  refine (specLeasesValid_c _ _ _ l _ h hz).mono ?_
  rintro e w1 ⟨rfl, hb1⟩
  have h := h.bel hb1
  cases hv : leasesB l
  · have HF := Lib.hid (hasF_no1 (t := t) (s := s) hv)
    clear hv
    go_wp2_with fail
    go_ret
    exact ⟨ret_int HF.out.symm, hb1⟩
  have HV := Lib.hid hv
  clear hv
  go_wp2_with fail
  obtain ⟨bt, ht⟩ : ∃ b, timeB t = b := ⟨_, rfl⟩
  refine (l6In_b t 0 9999 bt _ ht).mono ?_
  rintro e w2 ⟨rfl, rfl⟩
  have HT := Lib.hid ht
  clear ht
  cases bt
  · go_wp2_with fail
    go_ret
    exact ⟨ret_int (hasF_no2 HT.out).symm, hb1⟩
  go_wp2_with fail
  obtain ⟨bn, hn⟩ : ∃ b, nameB s = b := ⟨_, rfl⟩
  refine (specNameValid_b s bn _ hs hn).mono ?_
  rintro e w2 ⟨rfl, rfl⟩
  have HN := Lib.hid hn
  clear hn
  cases bn
  · go_wp2_with fail
    go_ret
    exact ⟨ret_int (hasF_no3 HN.out).symm, hb1⟩
  go_wp2_with fail
  refine (l21At_c _ _ _ l s _ h).mono ?_
  rintro e w3 ⟨rfl, rfl⟩
  rcases atR_cases l s with ⟨ha, hall⟩ | ⟨k, ⟨s', x, y⟩, ha, hk, hr, H⟩
  · rw [ha]
    have HF := Lib.hid (hasF_none HV.out HT.out HN.out hall)
    clear ha hall
    go_wp2_with fail
    go_ret
    exact ⟨ret_int HF.out.symm, hb1⟩
  · rw [ha]
    have HF := Lib.hid (hasF_some HV.out HT.out HN.out hk hr H)
    have hkn : k < n := by rw [← HL.out]; exact (List.getElem?_eq_some_iff.1 hk).1
    obtain ⟨b, off, s1, x1, y1, rfl, hx, hc0, hc1, hc2⟩ := SlR.get h hkn
    rw [hk] at hx
    cases hx
    clear ha hk H hr
    have i0 : (0 : Int) ≤ (k : Int) := by omega
    have i1 : (k : Int) < (n : Int) := by omega
    by_cases hy : t < y
    · have hd : decide (y ≤ t) = false := decide_eq_false (by omega)
      go_wp2_with fail
      go_ret
      exact ⟨ret_int (by rw [HF.out, if_pos hy]), hb1⟩
    · have hd : decide (y ≤ t) = true := decide_eq_true (by omega)
      go_wp2_with fail
      go_ret
      exact ⟨ret_int (by rw [HF.out, if_neg (by omega)]), hb1⟩

end Go.Proofs.Ythkgechljfjpdaa
