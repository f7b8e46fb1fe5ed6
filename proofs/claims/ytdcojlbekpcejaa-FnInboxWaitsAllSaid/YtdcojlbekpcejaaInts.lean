/- Slices of numbers: copying and comparing them. -/
import Derived.Test.YtdcojlbekpcejaaSlices
import Derived.Deep.RegionHeld3
namespace Go.Proofs.Ytdcojlbekpcejaa
open Go.RowKit

def encI (z : Int) : List Value := [.int .i64 z]
abbrev SlI (w : World) (A : Option Addr) (n c : Nat) (l : List Int) : Prop := Sl encI 1 w A n c l

theorem SlI.get {w : World} {A : Option Addr} {n c : Nat} {l : List Int} (h : SlI w A n c l) {i : Nat} (hi : i < n) : ∃ b off z, A = some ⟨b, off, none⟩ ∧ l[i]? = some z ∧ w.cell? ⟨b, off + i, none⟩ = some (.int .i64 z) := by
  obtain ⟨b, off, hA, z, hz, hc⟩ := h.cell0 hi
  have := hc 0 (.int .i64 z) rfl
  simp only [Nat.mul_one, Nat.add_zero] at this
  exact ⟨b, off, z, hA, hz, this⟩

theorem int_info : (Try.prog.info? 3).map (fun i => (i.zero, i.size, i.bytes)) = some (some (.int .i64 0), 1, 8) := by kernel_rfl

theorem flat_encI (l : List Int) : l.flatMap encI = l.map (Value.int .i64) := by
  induction l with
  | nil => rfl
  | cons x l ih => rw [List.flatMap_cons, ih]; rfl

theorem SlI.of_own {w : World} {B : Nat} {e : TypeId} {A : Option Addr} {n c : Nat} {l : List Int} (h : w.ownsRow B e 1 (.slice A n c) n (l.map (Value.int .i64))) : SlI w A n c l := by
  have hl : l.length = n := by have := h.1; simpa using this
  exact Sl.of_own (fun _ => rfl) (by rw [flat_encI]; exact h) hl

theorem map_set {l : List Int} {k : Nat} (x : Int) : (l.map (Value.int .i64)).set k (.int .i64 x) = (l.set k x).map (Value.int .i64) := by
  rw [List.map_set]

/-- After k rounds the first k elements are copied, the others are as they were made. -/
def cpy (l : List Int) (k : Nat) : List Int := l.take k ++ List.replicate (l.length - k) 0

theorem cpy_zero (l : List Int) : cpy l 0 = List.replicate l.length 0 := by simp [cpy]
theorem cpy_all (l : List Int) : cpy l l.length = l := by simp [cpy]
theorem cpy_step (l : List Int) (k : Nat) (z : Int) (h : l[k]? = some z) : (cpy l k).set k z = cpy l (k + 1) := by
  have hk : k < l.length := (List.getElem?_eq_some_iff.1 h).1
  have hz : l[k] = z := (List.getElem?_eq_some_iff.1 h).2
  apply List.ext_getElem?
  intro i
  unfold cpy
  rw [List.getElem?_set]
  by_cases hi : k = i
  · subst hi
    rw [if_pos rfl, if_pos (by simp; omega), List.getElem?_append_left (by simp; omega), List.getElem?_take, if_pos (by omega), h]
  · rw [if_neg hi]
    by_cases h1 : i < k
    · rw [List.getElem?_append_left (by simp; omega), List.getElem?_append_left (by simp; omega), List.getElem?_take, List.getElem?_take, if_pos h1, if_pos (by omega)]
    · rw [List.getElem?_append_right (by simp; omega), List.getElem?_append_right (by simp; omega), List.getElem?_replicate, List.getElem?_replicate]
      simp only [List.length_take]
      by_cases h2 : i < l.length
      · rw [if_pos (by omega), if_pos (by omega)]
      · rw [if_neg (by omega), if_neg (by omega)]

set_option maxHeartbeats 400000 in
theorem toIntS_c (A : Option Addr) (n c : Nat) (l : List Int) (w : World) (h : SlI w A n c l) (hn : n ≤ 1048576) : Calls Try.prog 43 #[.slice A n c] w fun e w' =>
    ∃ A' c', e = .returned (.slice A' n c') ∧ w'.ownsRow w.heap.size 3 1 (.slice A' n c') n (l.map (Value.int .i64)) ∧ Below w.heap.size w w' := by
  obtain ⟨i0, hi0, hz0, hz1, hz2⟩ := info_parts int_info
  have hlen := h.len
  have hmax := h.max
  have hcap := h.cap
  have HL := Lib.hid hlen
  clear hlen
  go_enter Try.func43, Try.ntmps43
  go_wp2_with (at_make; refine wpList_make_full _ rfl _ _ 23 rfl w.heap.size 3 i0 (.int .i64 0) 1 Try.underlying23 hi0 hz0 hz1 .i64 .i64 n n n rfl rfl rfl rfl (by rw [hz2]; omega) (by unfold maxLen; omega) (Nat.le_refl _) ?_; intro w1 hown hgrow)
  go_loopw [4] (fun i wr => ∃ k : Nat, k ≤ n ∧ i = .int .i64 k ∧ wr.ownsRow w.heap.size 3 1 (.slice (some ⟨w.heap.size, 0, none⟩) n n) n ((cpy l k).map (Value.int .i64)) ∧ Below w.heap.size w wr) (fun i _ => n - (intOf i).toNat)
  case atStart =>
    refine ⟨0, Nat.zero_le _, rfl, ?_, (Below.refl _ _).grown hgrow (Nat.le_refl _) (fun _ h => by cases h)⟩
    rw [cpy_zero, HL.out, List.map_replicate]
    have := toList_madeCells_one (.int .i64 0) (n * 1)
    rw [Nat.mul_one] at this hown
    exact this ▸ hown
  case round =>
    obtain ⟨k, hk, rfl, hown, hbr⟩ := hrel
    by_cases hlt : k < n
    · obtain ⟨b, off, z, rfl, hz, hcz⟩ := SlI.get (h.bel hbr) hlt
      obtain ⟨⟨v0, hco⟩, hcf⟩ := own_at hown (j := k) (by omega)
      have HZ := Lib.hid hz
      clear hz
      go_wp2_with fail
      go_roundw
      case rel => exact ⟨k + 1, by omega, by go_num, by rw [← cpy_step l k z HZ.out, ← map_set]; exact (hown.stored k _).1, hbr.setCell (Nat.le_refl _) _⟩
      case measure => simp [intOf]; omega
    · go_wp2_with fail
      go_ret
      obtain rfl : k = n := by omega
      refine ⟨_, _, rfl, ?_, hbr⟩
      rw [← HL.out, cpy_all] at hown
      rw [HL.out] at hown
      exact hown

theorem list_ne_len {α : Type} {l m : List α} (h : l.length ≠ m.length) : ¬ l = m := fun e => h (by rw [e])
theorem list_ne_at {α : Type} {l m : List α} (k : Nat) {x y : α} (hx : l[k]? = some x) (hy : m[k]? = some y) (h : x ≠ y) : ¬ l = m := fun e => by rw [e, hy] at hx; cases hx; exact h rfl
theorem list_eq_of {α : Type} {l m : List α} (h : l.length = m.length) (hk : ∀ j, j < l.length → l[j]? = m[j]?) : l = m := by
  apply List.ext_getElem?
  intro j
  by_cases hj : j < l.length
  · exact hk j hj
  · rw [List.getElem?_eq_none (by omega), List.getElem?_eq_none (by omega)]
theorem upto_next {α : Type} {l m : List α} {k : Nat} {x : α} (H : ∀ j, j < k → l[j]? = m[j]?) (hx : l[k]? = some x) (hy : m[k]? = some x) : ∀ j, j < k + 1 → l[j]? = m[j]? := by
  intro j hj
  rcases Nat.lt_or_ge j k with q | q
  · exact H j q
  · obtain rfl : j = k := by omega
    rw [hx, hy]

set_option maxHeartbeats 400000 in
theorem eqIntS_c (A B : Option Addr) (n c n' c' : Nat) (l m : List Int) (w : World) (h : SlI w A n c l) (h' : SlI w B n' c' m) : Calls Try.prog 29 #[.slice A n c, .slice B n' c'] w fun e w' =>
    e = .returned (.bool (decide (l = m))) ∧ ∃ q, w' = w.drewN q := by
  have HL := Lib.hid h.len
  have HM := Lib.hid h'.len
  have hcap := h.cap
  have hmax := h.max
  have hcap' := h'.cap
  have hmax' := h'.max
  by_cases hn : n = n'
  · subst hn
    go_enter Try.func29, Try.ntmps29
    go_wp2_with fail
    go_loopw [5] (fun i wr => ∃ k q : Nat, k ≤ n ∧ i = .int .i64 k ∧ wr = w.drewN q ∧ Hid (∀ j, j < k → l[j]? = m[j]?)) (fun i _ => n - (intOf i).toNat)
    case atStart => exact ⟨0, 0, Nat.zero_le _, rfl, rfl, Lib.hid (fun j h => by omega)⟩
    case round =>
      obtain ⟨k, q, hk, rfl, rfl, H⟩ := hrel
      by_cases hlt : k < n
      · obtain ⟨b, off, x, rfl, hx, hcx⟩ := SlI.get h hlt
        obtain ⟨b', off', y, rfl, hy, hcy⟩ := SlI.get h' hlt
        have HX := Lib.hid hx
        have HY := Lib.hid hy
        clear hx hy
        have k0 : (0 : Int) ≤ (k : Int) := by omega
        have k1 : (k : Int) < (n : Int) := by omega
        by_cases hxy : x = y
        · subst hxy
          go_wp2_with fail
          go_quiet (fail)
          go_wp2_with fail
          go_roundw
          case rel => exact ⟨k + 1, q + nq, by omega, by go_num, rfl, Lib.hid (upto_next H.out HX.out HY.out)⟩
          case measure => simp [intOf]; omega
        · go_wp2_with fail
          go_quiet (fail)
          go_wp2_with fail
          go_ret
          exact ⟨ret_bool (decide_eq_false (list_ne_at k HX.out HY.out hxy)).symm, q + nq, by simp⟩
      · go_wp2_with fail
        go_ret
        exact ⟨ret_bool (decide_eq_true (list_eq_of (by rw [HL.out, HM.out]) (fun j hj => H.out j (by rw [HL.out] at hj; omega)))).symm, q, rfl⟩
  · have hb : ((n : Int) == (n' : Int)) = false := by simp; omega
    go_enter Try.func29, Try.ntmps29
    go_wp2_with fail
    go_ret
    exact ⟨ret_bool (decide_eq_false (list_ne_len (by rw [HL.out, HM.out]; exact hn))).symm, 0, rfl⟩
end Go.Proofs.Ytdcojlbekpcejaa
