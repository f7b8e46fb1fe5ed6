/- An inbox is valid: the walks over the program's and the reference's InboxValid. -/
import Derived.Test.YtdcojlbekpcejaaInts
import Derived.Test.YtdcojlbekpcejaaAsc
namespace Go.Proofs.Ytdcojlbekpcejaa
open Go.RowKit

def okN (a z : Int) : Bool := decide (a + 2 ≤ z ∧ z ≤ 999)
def ltZ (z z' : Int) : Bool := decide (z < z')
/-- An inbox is valid. -/
def inbB (a : Int) (l : List Int) : Bool := decide (0 ≤ a ∧ a ≤ 999) && decide (l.length ≤ 6) && okAll (okN a) ltZ l
theorem ltZ_trans (a b c : Int) (h1 : ltZ a b = true) (h2 : ltZ b c = true) : ltZ a c = true := by simp [ltZ] at *; omega

theorem inb_no1 {a : Int} {l : List Int} (h : a < 0 ∨ 999 < a) : inbB a l = false := by
  have : decide (0 ≤ a ∧ a ≤ 999) = false := decide_eq_false (by omega)
  simp [inbB, this]
theorem inb_no2 {a : Int} {l : List Int} (h : 6 < l.length) : inbB a l = false := by
  have : decide (l.length ≤ 6) = false := decide_eq_false (by omega)
  simp [inbB, this]
theorem inb_no3 {a : Int} {l : List Int} {k : Nat} (hk : k < l.length) (h : okAt (okN a) ltZ l k = false) : inbB a l = false := by
  simp [inbB, okAll_no hk h]
theorem inb_yes {a : Int} {l : List Int} {n : Nat} (h0 : 0 ≤ a) (h1 : a ≤ 999) (hn : l.length = n) (h2 : n ≤ 6) (H : ∀ j, j < n → okAt (okN a) ltZ l j = true) : inbB a l = true := by
  have e1 : decide (0 ≤ a ∧ a ≤ 999) = true := decide_eq_true ⟨h0, h1⟩
  have e2 : decide (l.length ≤ 6) = true := decide_eq_true (by omega)
  simp [inbB, e1, e2, okAll_yes hn H]

/-- The greatest number ahead of place k. -/
def lastF (a : Int) (l : List Int) : Nat → Int
  | 0 => a + 1
  | k + 1 => (l[k]?).getD 0
theorem last_bad {a z : Int} {l : List Int} {k : Nat} (hz : l[k]? = some z) (h : z ≤ lastF a l k ∨ 999 < z) : okAt (okN a) ltZ l k = false := by
  by_cases h9 : 999 < z
  · exact okAt_bad hz (by simp [okN]; omega)
  rcases k with _ | k
  · exact okAt_bad hz (by simp [okN, lastF] at *; omega)
  · by_cases ho : okN a z = true
    · have hl : k < l.length := by have := (List.getElem?_eq_some_iff.1 hz).1; omega
      have hp : l[k]? = some l[k] := List.getElem?_eq_getElem hl
      rw [okAt_prev hz ho (by omega) (show l[k + 1 - 1]? = some l[k] from hp)]
      simp [lastF, hp] at h
      simp [ltZ]; omega
    · exact okAt_bad hz (by simpa using ho)
theorem last_good {a z : Int} {l : List Int} {k : Nat} (hz : l[k]? = some z) (H : ∀ j, j < k → okAt (okN a) ltZ l j = true) (h1 : lastF a l k < z) (h2 : z ≤ 999) : okAt (okN a) ltZ l k = true := by
  rcases k with _ | k
  · exact okAt_zero hz (by simp [okN, lastF] at *; omega)
  · have hl : k < l.length := by have := (List.getElem?_eq_some_iff.1 hz).1; omega
    have hp : l[k]? = some l[k] := List.getElem?_eq_getElem hl
    have hk := H k (by omega)
    have hok : okN a l[k] = true := by
      cases hc : okN a l[k]
      · rw [okAt_bad hp hc] at hk; cases hk
      · rfl
    simp [lastF, hp] at h1
    have ho : okN a z = true := by simp [okN] at *; omega
    rw [okAt_prev hz ho (by omega) (show l[k + 1 - 1]? = some l[k] from hp)]
    simp [ltZ]; omega

set_option maxHeartbeats 1000000 in
theorem implInboxValid_c (a : Int) (A : Option Addr) (n c : Nat) (l : List Int) (w : World) (h : SlI w A n c l) (ha : -9223372036854775808 ≤ a) (ha2 : a ≤ 9223372036854775807) : Calls Try.prog 17 #[.agg #[.int .i64 a, .slice A n c]] w fun e w' =>
    e = .returned (.bool (inbB a l)) ∧ Below w.heap.size w w' := by
  have HL := Lib.hid h.len
  have hcap := h.cap
  have hmax := h.max
  by_cases a0 : a < 0
  · have d0 : decide (a < 0) = true := decide_eq_true a0
    have HF := Lib.hid (inb_no1 (l := l) (.inl a0))
    go_enter Try.func17, Try.ntmps17
    go_wp2_with fail
    go_ret
    exact ⟨ret_bool HF.out.symm, by (repeat' first | exact bel_refl _ | refine bel_al ?_ _ | refine bel_dr ?_ | refine bel_drN ?_ _ | refine bel_nx ?_ (by assumption) | (refine bel_set ?_ (by first | omega | (simp; omega)) _))⟩
  have d0 : decide (a < 0) = false := decide_eq_false a0
  by_cases a1 : 999 < a
  · have d1 : decide (999 < a) = true := decide_eq_true a1
    have HF := Lib.hid (inb_no1 (l := l) (.inr a1))
    go_enter Try.func17, Try.ntmps17
    go_wp2_with fail
    go_ret
    exact ⟨ret_bool HF.out.symm, by (repeat' first | exact bel_refl _ | refine bel_al ?_ _ | refine bel_dr ?_ | refine bel_drN ?_ _ | refine bel_nx ?_ (by assumption) | (refine bel_set ?_ (by first | omega | (simp; omega)) _))⟩
  have d1 : decide (999 < a) = false := decide_eq_false a1
  by_cases a2 : 6 < n
  · have d2 : decide ((6 : Int) < (n : Int)) = true := decide_eq_true (by omega)
    have HF := Lib.hid (inb_no2 (a := a) (l := l) (by rw [HL.out]; exact a2))
    go_enter Try.func17, Try.ntmps17
    go_wp2_with fail
    go_ret
    exact ⟨ret_bool HF.out.symm, by (repeat' first | exact bel_refl _ | refine bel_al ?_ _ | refine bel_dr ?_ | refine bel_drN ?_ _ | refine bel_nx ?_ (by assumption) | (refine bel_set ?_ (by first | omega | (simp; omega)) _))⟩
  have d2 : decide ((6 : Int) < (n : Int)) = false := decide_eq_false (by omega)
  go_enter Try.func17, Try.ntmps17
  go_wp2_with fail
  go_loopw [26, 3] (fun i v wr => ∃ (k : Nat) (p : Int), k ≤ n ∧ i = .int .i64 k ∧ v = .int .i64 p ∧ Hid (p = lastF a l k) ∧ Hid (∀ j, j < k → okAt (okN a) ltZ l j = true) ∧ Below w.heap.size w wr) (fun i _ _ => n - (intOf i).toNat)
  case atStart => exact ⟨0, a + 1, Nat.zero_le _, rfl, rfl, Lib.hid rfl, Lib.hid (fun j h => by omega), by (repeat' first | exact bel_refl _ | refine bel_al ?_ _ | refine bel_dr ?_ | refine bel_drN ?_ _ | refine bel_nx ?_ (by assumption) | (refine bel_set ?_ (by first | omega | (simp; omega)) _))⟩
  case round =>
    obtain ⟨k, p, hk, rfl, rfl, HP, H, hbr⟩ := hrel
    by_cases hlt : k < n
    · obtain ⟨b, off, z, rfl, hx, hc0⟩ := SlI.get (h.bel hbr) hlt
      have HX := Lib.hid hx
      clear hx
      have i0 : (0 : Int) ≤ (k : Int) := by omega
      have i1 : (k : Int) < (n : Int) := by omega
      by_cases hz : z ≤ p
      · have dz : decide (z ≤ p) = true := decide_eq_true hz
        have HF := Lib.hid (inb_no3 (by rw [HL.out]; exact hlt) (last_bad HX.out (.inl (by rw [← HP.out]; exact hz))))
        go_wp2_with fail
        go_ret
        exact ⟨ret_bool HF.out.symm, hbr⟩
      have dz : decide (z ≤ p) = false := decide_eq_false hz
      by_cases h9 : 999 < z
      · have d9 : decide (999 < z) = true := decide_eq_true h9
        have HF := Lib.hid (inb_no3 (by rw [HL.out]; exact hlt) (last_bad (a := a) HX.out (.inr h9)))
        go_wp2_with fail
        go_ret
        exact ⟨ret_bool HF.out.symm, hbr⟩
      have d9 : decide (999 < z) = false := decide_eq_false h9
      have HG := Lib.hid (last_good HX.out H.out (by rw [← HP.out]; omega) (by omega))
      go_wp2_with fail
      go_roundw
      case rel => exact ⟨k + 1, z, by omega, by go_num, rfl, Lib.hid (by simp [lastF, HX.out]), Lib.hid (upto_ok H.out HG.out), hbr⟩
      case measure => simp [intOf]; omega
    · go_wp2_with fail
      go_ret
      exact ⟨ret_bool (inb_yes (by omega) (by omega) HL.out (by omega) (fun j hj => H.out j (by omega))).symm, hbr⟩

end Go.Proofs.Ytdcojlbekpcejaa
