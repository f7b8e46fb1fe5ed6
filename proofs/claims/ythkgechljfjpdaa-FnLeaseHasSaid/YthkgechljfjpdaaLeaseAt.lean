/- The place of a lease: the walks over the program's leaseAt and the reference's l21At. -/
import Derived.Test.YthkgechljfjpdaaRecs
namespace Go.Proofs.Ythkgechljfjpdaa
open Go.RowKit

/-- The place of the first record with a name, or -1. -/
def atR (l : List R3) (s : ByteArray) : Int := match l.findIdx? (fun r => decide (r.1 = s)) with | some i => i | none => -1

theorem atR_none {l : List R3} {s : ByteArray} {n : Nat} (hn : l.length = n) (H : ∀ j, j < n → ∀ r, l[j]? = some r → r.1 ≠ s) : atR l s = -1 := by
  unfold atR
  have : l.findIdx? (fun r => decide (r.1 = s)) = none := by
    rw [List.findIdx?_eq_none_iff]
    intro r hr
    obtain ⟨j, hj, rfl⟩ := List.getElem_of_mem hr
    exact decide_eq_false (H j (by omega) _ (List.getElem?_eq_getElem hj))
  rw [this]
theorem atR_some {l : List R3} {s : ByteArray} {k : Nat} {r : R3} (hk : l[k]? = some r) (hr : r.1 = s) (H : ∀ j, j < k → ∀ r, l[j]? = some r → r.1 ≠ s) : atR l s = k := by
  unfold atR
  have hl : k < l.length := (List.getElem?_eq_some_iff.1 hk).1
  have he : l[k] = r := (List.getElem?_eq_some_iff.1 hk).2
  have : l.findIdx? (fun r => decide (r.1 = s)) = some k := by
    rw [List.findIdx?_eq_some_iff_getElem]
    refine ⟨hl, by rw [he]; exact decide_eq_true hr, fun j hj => ?_⟩
    have := H j hj _ (List.getElem?_eq_getElem (by omega))
    simpa using this
  rw [this]
theorem atR_cases (l : List R3) (s : ByteArray) : (atR l s = -1 ∧ ∀ r ∈ l, r.1 ≠ s) ∨ ∃ k r, atR l s = (k : Nat) ∧ l[k]? = some r ∧ r.1 = s ∧ ∀ j, j < k → ∀ r, l[j]? = some r → r.1 ≠ s := by
  unfold atR
  cases h : l.findIdx? (fun r => decide (r.1 = s)) with
  | none =>
    rw [List.findIdx?_eq_none_iff] at h
    exact .inl ⟨rfl, fun r hr => of_decide_eq_false (h r hr)⟩
  | some k =>
    rw [List.findIdx?_eq_some_iff_getElem] at h
    obtain ⟨hl, h1, h2⟩ := h
    refine .inr ⟨k, l[k], rfl, List.getElem?_eq_getElem hl, of_decide_eq_true h1, fun j hj r hr => ?_⟩
    have := h2 j hj
    obtain ⟨hj', rfl⟩ := List.getElem?_eq_some_iff.1 hr
    simpa using this
theorem ne_next {l : List R3} {s : ByteArray} {k : Nat} {r : R3} (hk : l[k]? = some r) (hr : r.1 ≠ s) (H : ∀ j, j < k → ∀ r, l[j]? = some r → r.1 ≠ s) : ∀ j, j < k + 1 → ∀ r, l[j]? = some r → r.1 ≠ s := by
  intro j hj r' hr'
  rcases Nat.lt_or_ge j k with q | q
  · exact H j q r' hr'
  · obtain rfl : j = k := by omega
    rw [hk] at hr'; cases hr'; exact hr

theorem sameName_b (s s' : ByteArray) (x y : Int) (p : Addr) (b : Bool) (w : World) (hp : w.cell? p = some (.string s)) (hb : (s'.toList == s.toList) = b) : Calls Try.prog 53 #[.agg #[.string s', .int .i64 x, .int .i64 y], .pointer (some p)] w fun e w' =>
    e = .returned (.bool b) ∧ Below w.heap.size w w' := by
  have HB := Lib.hid hb
  clear hb
  have hp2 := (cell_alloc_some w (.cells #[.string s', .int .i64 x, .int .i64 y] 45) p (by rw [hp]; rfl)).trans hp
  go_enter Try.func53, Try.ntmps53
  go_wp2
  go_ret
  exact ⟨ret_bool HB.out, by (repeat' first | exact bel_refl _ | refine bel_al ?_ _ | refine bel_dr ?_ | refine bel_drN ?_ _ | refine bel_nx ?_ (by assumption) | (refine bel_set ?_ (by first | omega | (simp; omega)) _))⟩

set_option maxHeartbeats 400000 in
theorem indexFunc_c (A : Option Addr) (n c : Nat) (l : List R3) (s : ByteArray) (p : Addr) (w : World) (h : SlR w A n c l) (hp : w.cell? p = some (.string s)) : Calls Try.prog 52 #[.slice A n c, .func (.func 53) #[] #[.pointer (some p)]] w fun e w' =>
    e = .returned (.int .i64 (atR l s)) ∧ Below w.heap.size w w' := by
  have HL := Lib.hid h.len
  have hcap := h.cap
  have hmax := h.max
  have HP := Lib.hid hp
  clear hp
  go_enter Try.func52, Try.ntmps52
  go_wp2_with fail
  go_loopw [8] (fun i wr => ∃ k : Nat, k ≤ n ∧ i = .int .i64 k ∧ Hid (∀ j, j < k → ∀ r, l[j]? = some r → r.1 ≠ s) ∧ Below w.heap.size w wr) (fun i _ => n - (intOf i).toNat)
  case atStart => exact ⟨0, Nat.zero_le _, rfl, Lib.hid (fun j h => by omega), Below.refl _ _⟩
  case round =>
    obtain ⟨k, hk, rfl, H, hbr⟩ := hrel
    by_cases hlt : k < n
    · obtain ⟨b, off, s', x, y, rfl, hx, hc0, hc1, hc2⟩ := SlR.get (h.bel hbr) hlt
      have HX := Lib.hid hx
      clear hx
      have hpr := cell_later hbr HP.out
      have i0 : (0 : Int) ≤ (k : Int) := by omega
      have i1 : (k : Int) < (n : Int) := by omega
      by_cases hs : s' = s
      · have HS := Lib.hid hs
        clear hs
        go_wp2_with fail
        refine (sameName_b s s' x y p true _ hpr (by rw [HS.out]; simp)).mono ?_
        rintro e w2 ⟨rfl, hb2⟩
        go_wp2_with fail
        go_ret
        exact ⟨ret_int (atR_some HX.out HS.out H.out).symm, bel_nx hbr hb2⟩
      · have HS := Lib.hid hs
        clear hs
        go_wp2_with fail
        refine (sameName_b s s' x y p false _ hpr (beqS_no HS.out)).mono ?_
        rintro e w2 ⟨rfl, hb2⟩
        go_wp2_with fail
        go_roundw
        case rel => exact ⟨k + 1, by omega, by go_num, Lib.hid (ne_next HX.out HS.out H.out), bel_nx hbr hb2⟩
        case measure => simp [intOf]; omega
    · go_wp2_with fail
      go_ret
      exact ⟨ret_int (atR_none HL.out (fun j hj => H.out j (by omega))).symm, hbr⟩

set_option maxHeartbeats 400000 in
theorem leaseAt_c (A : Option Addr) (n c : Nat) (l : List R3) (s : ByteArray) (w : World) (h : SlR w A n c l) : Calls Try.prog 41 #[.slice A n c, .string s] w fun e w' =>
    e = .returned (.int .i64 (atR l s)) ∧ Below w.heap.size w w' := by
  go_enter Try.func41, Try.ntmps41
  go_wp2_with fail
  refine (indexFunc_c A n c l s _ _ (h.al _) (by simp)).mono ?_
  rintro e w2 ⟨rfl, hb2⟩
  go_wp2_with fail
  go_ret
  exact ⟨rfl, by (repeat' first | exact bel_refl _ | refine bel_al ?_ _ | refine bel_dr ?_ | refine bel_drN ?_ _ | refine bel_nx ?_ (by assumption) | (refine bel_set ?_ (by first | omega | (simp; omega)) _))⟩

set_option maxHeartbeats 400000 in
theorem l21At_c (A : Option Addr) (n c : Nat) (l : List R3) (s : ByteArray) (w : World) (h : SlR w A n c l) : Calls Try.prog 49 #[.slice A n c, .string s] w fun e w' =>
    e = .returned (.int .i64 (atR l s)) ∧ w = w' := by
  have HL := Lib.hid h.len
  have hcap := h.cap
  have hmax := h.max
  go_enter Try.func49, Try.ntmps49
  go_wp2_with fail
  go_loop [5] (fun i => ∃ k : Nat, k ≤ n ∧ i = .int .i64 k ∧ Hid (∀ j, j < k → ∀ r, l[j]? = some r → r.1 ≠ s)) (fun i => n - (intOf i).toNat)
  case atStart => exact ⟨0, Nat.zero_le _, rfl, Lib.hid (fun j h => by omega)⟩
  case round =>
    obtain ⟨k, hk, rfl, H⟩ := hrel
    by_cases hlt : k < n
    · obtain ⟨b, off, s', x, y, rfl, hx, hc0, hc1, hc2⟩ := SlR.get h hlt
      have HX := Lib.hid hx
      clear hx
      by_cases hs : s' = s
      · have HS := Lib.hid hs
        have e1 : (s'.toList == s.toList) = true := by rw [hs]; simp
        clear hs
        go_wp2_with fail
        go_ret
        exact ⟨ret_int (atR_some HX.out HS.out H.out).symm, rfl⟩
      · have HS := Lib.hid hs
        have e1 : (s'.toList == s.toList) = false := beqS_no hs
        clear hs
        go_wp2_with fail
        go_round
        case rel => exact ⟨k + 1, by omega, by go_num, Lib.hid (ne_next HX.out HS.out H.out)⟩
        case measure => simp [intOf]; omega
    · go_wp2_with fail
      go_ret
      exact ⟨ret_int (atR_none HL.out (fun j hj => H.out j (by omega))).symm, rfl⟩

end Go.Proofs.Ythkgechljfjpdaa
