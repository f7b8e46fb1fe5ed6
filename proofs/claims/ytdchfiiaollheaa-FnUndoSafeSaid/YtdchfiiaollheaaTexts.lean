/- Slices of texts: what they hold; two compared. -/
import Derived.Test.YtdchfiiaollheaaSlices
import Derived.Test.YtdchfiiaollheaaAppend
import Derived.Test.YtdchfiiaollheaaAsc
import Derived.Deep.RegionHeld3
namespace Go.Proofs.Ytdchfiiaollheaa
open Go.RowKit

def encS (s : ByteArray) : List Value := [.string s]
abbrev SlS (w : World) (A : Option Addr) (n c : Nat) (l : List ByteArray) : Prop := Sl encS 1 w A n c l
theorem SlS.get {w : World} {A : Option Addr} {n c : Nat} {l : List ByteArray} (h : SlS w A n c l) {i : Nat} (hi : i < n) : ∃ b off z, A = some ⟨b, off, none⟩ ∧ l[i]? = some z ∧ w.cell? ⟨b, off + i, none⟩ = some (.string z) := by
  obtain ⟨b, off, hA, z, hz, hc⟩ := h.cell0 hi
  have := hc 0 (.string z) rfl
  simp only [Nat.mul_one, Nat.add_zero] at this
  exact ⟨b, off, z, hA, hz, this⟩
theorem str_info : (Try.prog.info? 9).map (fun i => (i.zero, i.size, i.bytes)) = some (some (.string ByteArray.empty), 1, 16) := by kernel_rfl
theorem one_S (a : ByteArray) (u : Value) (hu : u ∈ encS a) : u.oneCell' = true := by simp [encS] at hu; subst hu; rfl
theorem flat_encS (l : List ByteArray) : l.flatMap encS = l.map Value.string := by
  induction l with
  | nil => rfl
  | cons x l ih => rw [List.flatMap_cons, ih]; rfl
theorem SlS.of_own {w : World} {B : Nat} {e : TypeId} {A : Option Addr} {n c : Nat} {l : List ByteArray} (h : w.ownsRow B e 1 (.slice A n c) n (l.map Value.string)) : SlS w A n c l := by
  have hl : l.length = n := by have := h.1; simpa using this
  exact Sl.of_own (fun _ => rfl) (by rw [flat_encS]; exact h) hl

theorem list_ne_len {α : Type} {l m : List α} (h : l.length ≠ m.length) : ¬ l = m := fun e => h (by rw [e])
theorem list_ne_at {α : Type} {l m : List α} (k : Nat) {x y : α} (hx : l[k]? = some x) (hy : m[k]? = some y) (h : x ≠ y) : ¬ l = m := fun e => by rw [e, hy] at hx; cases hx; exact h rfl
theorem list_eq_of {α : Type} {l m : List α} (h : l.length = m.length) (hk : ∀ j, j < l.length → l[j]? = m[j]?) : l = m := by
  apply List.ext_getElem?
  intro j
  by_cases hj : j < l.length
  · exact hk j hj
  · rw [List.getElem?_eq_none (by omega), List.getElem?_eq_none (by omega)]
theorem upto_next {α : Type} {l m : List α} {k : Nat} {x : α} (H : ∀ j, j < k → l[j]? = m[j]?) (hx : l[k]? = some x) (hy : m[k]? = some x) : ∀ j, j < k + 1 → l[j]? = m[j]? := by
  intro j hj
  rcases Nat.lt_or_ge j k with q | q
  · exact H j q
  · obtain rfl : j = k := by omega
    rw [hx, hy]

set_option maxHeartbeats 400000 in
theorem eqStringS_c (A B : Option Addr) (n c n' c' : Nat) (l m : List ByteArray) (w : World) (h : SlS w A n c l) (h' : SlS w B n' c' m) : Calls Try.prog 44 #[.slice A n c, .slice B n' c'] w fun e w' =>
    e = .returned (.bool (decide (l = m))) ∧ ∃ q, w' = w.drewN q := by
  have HL := Lib.hid h.len
  have HM := Lib.hid h'.len
  have hcap := h.cap
  have hmax := h.max
  have hcap' := h'.cap
  have hmax' := h'.max
  by_cases hn : n = n'
  · subst hn
    go_enter Try.func44, Try.ntmps44
    go_wp2_with fail
    go_loopw [5] (fun i wr => ∃ k q : Nat, k ≤ n ∧ i = .int .i64 k ∧ wr = w.drewN q ∧ Hid (∀ j, j < k → l[j]? = m[j]?)) (fun i _ => n - (intOf i).toNat)
    case atStart => exact ⟨0, 0, Nat.zero_le _, rfl, rfl, Lib.hid (fun j h => by omega)⟩
    case round =>
      obtain ⟨k, q, hk, rfl, rfl, H⟩ := hrel
      by_cases hlt : k < n
      · obtain ⟨b, off, x, rfl, hx, hcx⟩ := SlS.get h hlt
        obtain ⟨b', off', y, rfl, hy, hcy⟩ := SlS.get h' hlt
        have HX := Lib.hid hx
        have HY := Lib.hid hy
        clear hx hy
        have k0 : (0 : Int) ≤ (k : Int) := by omega
        have k1 : (k : Int) < (n : Int) := by omega
        by_cases hxy : x = y
        · subst hxy
          have exx : (x.toList == x.toList) = true := by simp
          have exn : (x.toList != x.toList) = false := by simp
          go_wp2_with fail
          go_quiet (fail)
          go_wp2_with fail
          go_roundw
          case rel => exact ⟨k + 1, q + nq, by omega, by go_num, rfl, Lib.hid (upto_next H.out HX.out HY.out)⟩
          case measure => simp [intOf]; omega
        · have exy : (x.toList == y.toList) = false := beqS_no hxy
          have exn : (x.toList != y.toList) = true := by rw [bne, exy]; rfl
          have HXY := Lib.hid hxy
          clear hxy
          go_wp2_with fail
          go_quiet (fail)
          go_wp2_with fail
          go_ret
          exact ⟨ret_bool (decide_eq_false (list_ne_at k HX.out HY.out HXY.out)).symm, q + nq, by simp⟩
      · go_wp2_with fail
        go_ret
        exact ⟨ret_bool (decide_eq_true (list_eq_of (by rw [HL.out, HM.out]) (fun j hj => H.out j (by rw [HL.out] at hj; omega)))).symm, q, rfl⟩
  · have hb : ((n : Int) == (n' : Int)) = false := by simp; omega
    go_enter Try.func44, Try.ntmps44
    go_wp2_with fail
    go_ret
    exact ⟨ret_bool (decide_eq_false (list_ne_len (by rw [HL.out, HM.out]; exact hn))).symm, 0, rfl⟩
set_option maxHeartbeats 400000 in
theorem sameTexts_c (A B : Option Addr) (n c n' c' : Nat) (l m : List ByteArray) (w : World) (h : SlS w A n c l) (h' : SlS w B n' c' m) : Calls Try.prog 32 #[.slice A n c, .slice B n' c'] w fun e w' =>
    e = .returned (.bool (decide (l = m))) ∧ ∃ q, w' = w.drewN q := by
  have HL := Lib.hid h.len
  have HM := Lib.hid h'.len
  have hcap := h.cap
  have hmax := h.max
  have hcap' := h'.cap
  have hmax' := h'.max
  by_cases hn : n = n'
  · subst hn
    go_enter Try.func32, Try.ntmps32
    go_wp2_with fail
    go_loopw [5] (fun i wr => ∃ k q : Nat, k ≤ n ∧ i = .int .i64 k ∧ wr = w.drewN q ∧ Hid (∀ j, j < k → l[j]? = m[j]?)) (fun i _ => n - (intOf i).toNat)
    case atStart => exact ⟨0, 0, Nat.zero_le _, rfl, rfl, Lib.hid (fun j h => by omega)⟩
    case round =>
      obtain ⟨k, q, hk, rfl, rfl, H⟩ := hrel
      by_cases hlt : k < n
      · obtain ⟨b, off, x, rfl, hx, hcx⟩ := SlS.get h hlt
        obtain ⟨b', off', y, rfl, hy, hcy⟩ := SlS.get h' hlt
        have HX := Lib.hid hx
        have HY := Lib.hid hy
        clear hx hy
        have k0 : (0 : Int) ≤ (k : Int) := by omega
        have k1 : (k : Int) < (n : Int) := by omega
        by_cases hxy : x = y
        · subst hxy
          have exx : (x.toList == x.toList) = true := by simp
          have exn : (x.toList != x.toList) = false := by simp
          go_wp2_with fail
          go_quiet (fail)
          go_wp2_with fail
          go_roundw
          case rel => exact ⟨k + 1, q + nq, by omega, by go_num, rfl, Lib.hid (upto_next H.out HX.out HY.out)⟩
          case measure => simp [intOf]; omega
        · have exy : (x.toList == y.toList) = false := beqS_no hxy
          have exn : (x.toList != y.toList) = true := by rw [bne, exy]; rfl
          have HXY := Lib.hid hxy
          clear hxy
          go_wp2_with fail
          go_quiet (fail)
          go_wp2_with fail
          go_ret
          exact ⟨ret_bool (decide_eq_false (list_ne_at k HX.out HY.out HXY.out)).symm, q + nq, by simp⟩
      · go_wp2_with fail
        go_ret
        exact ⟨ret_bool (decide_eq_true (list_eq_of (by rw [HL.out, HM.out]) (fun j hj => H.out j (by rw [HL.out] at hj; omega)))).symm, q, rfl⟩
  · have hb : ((n : Int) == (n' : Int)) = false := by simp; omega
    go_enter Try.func32, Try.ntmps32
    go_wp2_with fail
    go_ret
    exact ⟨ret_bool (decide_eq_false (list_ne_len (by rw [HL.out, HM.out]; exact hn))).symm, 0, rfl⟩

end Go.Proofs.Ytdchfiiaollheaa
