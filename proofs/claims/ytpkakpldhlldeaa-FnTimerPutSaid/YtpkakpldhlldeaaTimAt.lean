/- Where a timer of a name is first found: the reference's l15At. -/
import Derived.Test.YtpkakpldhlldeaaTimBef
import Derived.Test.YtpkakpldhlldeaaTimVal
import Derived.Test.YtpkakpldhlldeaaMapSet
namespace Go.Proofs.Ytpkakpldhlldeaa
open Go.RowKit

/-- The first place of a name, or -1. -/
def atF (l : List R2) (s : ByteArray) : Int := if l.findIdx (fun r => decide (r.2 = s)) < l.length then (l.findIdx (fun r => decide (r.2 = s)) : Int) else -1

theorem atF_hit {l : List R2} {s : ByteArray} {k : Nat} {x : Int} (hk : l[k]? = some (x, s)) (H : ∀ j (r : R2), j < k → l[j]? = some r → r.2 ≠ s) : atF l s = (k : Int) := by
  obtain ⟨hl, he⟩ := List.getElem?_eq_some_iff.1 hk
  have : l.findIdx (fun r => decide (r.2 = s)) = k := by
    rw [List.findIdx_eq hl]
    refine ⟨by rw [he]; simp, fun j hj => ?_⟩
    have := H j l[j] hj (List.getElem?_eq_getElem (by omega))
    simpa using this
  unfold atF
  rw [this, if_pos hl]
theorem atF_miss {l : List R2} {s : ByteArray} (H : ∀ j (r : R2), j < l.length → l[j]? = some r → r.2 ≠ s) : atF l s = -1 := by
  unfold atF
  rw [if_neg]
  intro h
  rw [List.findIdx_lt_length] at h
  obtain ⟨r, hr, he⟩ := h
  obtain ⟨j, hj, rfl⟩ := List.mem_iff_getElem.1 hr
  exact H j _ hj (List.getElem?_eq_getElem hj) (by simpa using he)
theorem atF_le {l : List R2} {s : ByteArray} {k : Nat} {x : Int} (hk : l[k]? = some (x, s)) : decide (atF l s < (k : Int)) = inB (namesT (l.take k)) s := by
  obtain ⟨hl, he⟩ := List.getElem?_eq_some_iff.1 hk
  have hlt : l.findIdx (fun r => decide (r.2 = s)) < l.length := by
    rw [List.findIdx_lt_length]
    exact ⟨l[k], List.getElem_mem hl, by rw [he]; simp⟩
  have hF : atF l s = (l.findIdx (fun r => decide (r.2 = s)) : Int) := by unfold atF; rw [if_pos hlt]
  rw [hF, Bool.eq_iff_iff, decide_eq_true_iff, inB_iff]
  constructor
  · intro h
    have hg := List.findIdx_getElem (xs := l) (p := fun r => decide (r.2 = s)) (w := hlt)
    unfold namesT
    refine List.mem_map.2 ⟨l[l.findIdx (fun r => decide (r.2 = s))], ?_, by simpa using hg⟩
    exact List.mem_iff_getElem.2 ⟨l.findIdx (fun r => decide (r.2 = s)), by simp; omega, by rw [List.getElem_take]⟩
  · intro h
    unfold namesT at h
    obtain ⟨r, hr, hrs⟩ := List.mem_map.1 h
    obtain ⟨j, hj, hje⟩ := List.mem_iff_getElem.1 hr
    rw [List.getElem_take] at hje
    have hj2 : j < k := by simp at hj; omega
    have hnot : ¬ j < l.findIdx (fun r => decide (r.2 = s)) := by
      intro hjf
      have := List.not_of_lt_findIdx hjf
      rw [hje] at this
      simp [hrs] at this
    omega

theorem l15At_c (A : Option Addr) (n c : Nat) (l : List R2) (s : ByteArray) (w : World) (h : SlT w A n c l) : Calls Try.prog 48 #[.slice A n c, .string s] w fun e w' =>
    e = .returned (.int .i64 (atF l s)) ∧ Below w.heap.size w w' := by
  have HL := Lib.hid h.len
  have hcap := h.cap
  have hmax := h.max
  go_enter Try.func48, Try.ntmps48
  go_wp2_with fail
  go_loopw [5] (fun i wr => ∃ k : Nat, k ≤ n ∧ i = .int .i64 k ∧ Hid (∀ j (r : R2), j < k → l[j]? = some r → r.2 ≠ s) ∧ Below w.heap.size w wr) (fun i _ => n - (intOf i).toNat)
  case atStart => exact ⟨0, Nat.zero_le _, rfl, Lib.hid (fun j r h => by omega), by (repeat' first | exact bel_refl _ | refine bel_al ?_ _ | refine bel_dr ?_ | refine bel_drN ?_ _ | refine bel_nx ?_ (by assumption) | (refine bel_set ?_ (by first | omega | (simp; omega)) _))⟩
  case round =>
    obtain ⟨k, hk, rfl, H, hbr⟩ := hrel
    by_cases hlt : k < n
    · obtain ⟨b, off, x, t, rfl, hx, hc0, hc1⟩ := SlT.get (h.bel hbr) hlt
      have HX := Lib.hid hx
      clear hx
      have k0 : (0 : Int) ≤ (k : Int) := by omega
      have k1 : (k : Int) < (n : Int) := by omega
      by_cases hts : t = s
      · subst hts
        have e1 : (t.toList == t.toList) = true := by simp
        have HF := Lib.hid (atF_hit HX.out H.out)
        go_wp2_with fail
        go_ret
        exact ⟨ret_int HF.out.symm, hbr⟩
      · have e1 : (t.toList == s.toList) = false := beqS_no hts
        have HN : Hid (∀ j (r : R2), j < k + 1 → l[j]? = some r → r.2 ≠ s) := Lib.hid (fun j r hj hr => by
          rcases Nat.lt_or_ge j k with q | q
          · exact H.out j r q hr
          · obtain rfl : j = k := by omega
            rw [HX.out] at hr
            cases hr
            exact hts)
        clear hts
        go_wp2_with fail
        go_roundw
        case rel => exact ⟨k + 1, by omega, by go_num, HN, hbr⟩
        case measure => simp [intOf]; omega
    · have HF := Lib.hid (atF_miss (l := l) (s := s) (fun j r hj hr => H.out j r (by rw [HL.out] at hj; omega) hr))
      go_wp2_with fail
      go_ret
      exact ⟨ret_int HF.out.symm, hbr⟩

end Go.Proofs.Ytpkakpldhlldeaa
