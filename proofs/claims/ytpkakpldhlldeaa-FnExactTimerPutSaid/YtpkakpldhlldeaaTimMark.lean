/- Slices of timers: marked, and asked for the marks. -/
import Derived.Test.YtpkakpldhlldeaaTimS
import Derived.Test.YtpkakpldhlldeaaMarksG
namespace Go.Proofs.Ytpkakpldhlldeaa
open Go.RowKit

def mtT (k i : Nat) : R2 := (((k + 2 * i : Nat) : Int), mt (k + 2 * i + 1))

set_option maxHeartbeats 400000 in
theorem markTimerS_c (B : Nat) (A : Option Addr) (n c k : Nat) (l : List R2) (w : World) (hown : w.ownsRow B 25 2 (.slice A n c) n (l.flatMap encT)) (hk : 0 < k) (hk2 : k + 2 * n ≤ 100000000) : Calls Try.prog 22 #[.slice A n c, .int .i64 k] w fun e w' =>
    e = .returned (.int .i64 ((k + 2 * n : Nat) : Int)) ∧ w'.ownsRow B 25 2 (.slice A n c) n ((marksG (mtT k) n).flatMap encT) ∧ w.grownBy w' (Value.slice A n c).ownBlock := by
  have hs := SlT.of_own hown
  have HL := Lib.hid hs.len
  have hcap := hs.cap
  have hmax := hs.max
  go_enter Try.func22, Try.ntmps22
  go_wp2_with fail
  go_loopw [5, 1] (fun i m wr => ∃ j q : Nat, j ≤ n ∧ q = k + 2 * j ∧ i = .int .i64 j ∧ m = .int .i64 q ∧ wr.ownsRow B 25 2 (.slice A n c) n ((mkdG (mtT k) l j).flatMap encT) ∧ w.grownBy wr (Value.slice A n c).ownBlock) (fun i _ _ => n - (intOf i).toNat)
  case atStart => exact ⟨0, k, Nat.zero_le _, rfl, rfl, rfl, by rw [mkdG_zero]; exact hown, World.grownBy.refl w _⟩
  case round =>
    obtain ⟨j, q, hj, hq, rfl, rfl, ho, hg⟩ := hrel
    have HQ := Lib.hid hq
    have q1 : 0 < q := by omega
    have q2 : q ≤ 100000000 := by omega
    clear hq
    by_cases hlt : j < n
    · obtain ⟨g, cap, hA, hgB, hgL⟩ := ho.form (by omega)
      obtain ⟨rfl, _, rfl⟩ := slice_inj hA
      have i0 : (0 : Int) ≤ (j : Int) := by omega
      have i1 : (j : Int) < (n : Int) := by omega
      have hoq := ho
      obtain ⟨⟨v0, hco0⟩, hcf0⟩ := own_at ho (j := j * 2) (by omega)
      have hs0 := (ho.stored (j * 2) (.int .i64 q)).1
      have hw1 : IntKind.i64.wrap ((q : Int) + 1) = ((q + 1 : Nat) : Int) := by rw [IntKind.wrap_i64]; omega
      go_wp2_with fail
      refine (markText_c (q + 1) _ (by omega) (by omega)).mono ?_
      rintro e w2 ⟨rfl, hb2⟩
      have ho2 := own_bel hs0 hb2
      obtain ⟨⟨v1, hco1⟩, hcf1⟩ := own_at ho2 (j := j * 2 + 1) (by omega)
      go_wp2_with fail
      go_roundw
      case rel =>
        have hq := HQ.out
        refine ⟨j + 1, q + 2, by omega, by omega, by go_num, by go_num, ?_, ?_⟩
        · have h2 := (ho2.stored (j * 2 + 1) (.string (mt (q + 1)))).1
          have e3 := flat_set2 (enc := encT) (f := fun r => .int .i64 r.1) (g := fun r => .string r.2) (fun _ => rfl) (mtT k j) (mkdG (mtT k) l j) j
          rw [mkdG_step _ (by rw [HL.out]; exact hlt)] at e3
          rw [← e3]
          simp only [mtT, ← hq]
          exact h2
        · exact (gr_below (hg.trans (gr_cell _ g _ _)) hb2).trans (gr_cell _ g _ _)
      case measure => simp [intOf]; omega
    · obtain rfl : j = n := by omega
      go_wp2_with fail
      go_ret
      have hq := HQ.out
      subst hq
      refine ⟨rfl, ?_, hg⟩
      rw [mkdG_all _ HL.out] at ho
      exact ho

theorem mtT_at {k n j q : Nat} {x : Int} {s : ByteArray} (h : (marksG (mtT k) n)[j]? = some (x, s)) (hj : j < n) (hq : q = k + 2 * j) : x = (q : Int) ∧ s = mt (q + 1) := by
  rw [marksG_at _ hj] at h
  subst hq
  simp only [mtT, Option.some.injEq, Prod.mk.injEq] at h
  exact ⟨h.1.symm, h.2.symm⟩

set_option maxHeartbeats 1000000 in
theorem heldTimerS_c (A : Option Addr) (n c k : Nat) (w : World) (h : SlT w A n c (marksG (mtT k) n)) (hk : 0 < k) (hk2 : k + 2 * n ≤ 100000000) : Calls Try.prog 23 #[.slice A n c, .int .i64 k] w fun e w' =>
    e = .returned (.int .i64 ((k + 2 * n : Nat) : Int)) ∧ Below w.heap.size w w' := by
  have hcap := h.cap
  have hmax := h.max
  go_enter Try.func23, Try.ntmps23
  go_wp2_with fail
  go_loopw [5, 1] (fun i m wr => ∃ j q : Nat, j ≤ n ∧ q = k + 2 * j ∧ i = .int .i64 j ∧ m = .int .i64 q ∧ Below w.heap.size w wr) (fun i _ _ => n - (intOf i).toNat)
  case atStart => exact ⟨0, k, Nat.zero_le _, rfl, rfl, rfl, Below.refl _ _⟩
  case round =>
    obtain ⟨j, q, hj, hq, rfl, rfl, hbr⟩ := hrel
    have HQ := Lib.hid hq
    have q1 : 0 < q := by omega
    have q2 : q ≤ 100000000 := by omega
    clear hq
    by_cases hlt : j < n
    · obtain ⟨b, off, x, s, rfl, hx, hc0, hc1⟩ := SlT.get (h.bel hbr) hlt
      obtain ⟨rfl, es⟩ := mtT_at hx hlt HQ.out
      have HS := Lib.hid es
      clear es hx
      have i0 : (0 : Int) ≤ (j : Int) := by omega
      have i1 : (j : Int) < (n : Int) := by omega
      have es : (s.toList == s.toList) = true := by simp
      have hw1 : IntKind.i64.wrap ((q : Int) + 1) = ((q + 1 : Nat) : Int) := by rw [IntKind.wrap_i64]; omega
      go_wp2_with fail
      go_region_held3 (fun w' => w'.cell? ⟨b, off + j * 2 + 1, none⟩ = some (.string s)) (first | go_keep | exact hc1 | exact cell_later hb2 hc1)
        ((first | (go_at_call 45; refine (markText_b (q + 1) s _ (by omega) (by omega) HS.out).mono ?_; rintro e w2 ⟨rfl, hb2⟩)))
      go_wp2_with fail
      go_roundw
      case rel =>
        have hq := HQ.out
        exact ⟨j + 1, q + 2, by omega, by omega, by go_num, by go_num, bel_nx (bel_dr hbr) hb2⟩
      case measure => simp [intOf]; omega
    · obtain rfl : j = n := by omega
      go_wp2_with fail
      go_ret
      have hq := HQ.out
      subst hq
      exact ⟨rfl, hbr⟩

end Go.Proofs.Ytpkakpldhlldeaa
