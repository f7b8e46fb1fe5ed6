/- The text of a mark: 'm' and a number's digits. -/
import Derived.Test.YtdchfiiaollheaaBase
import Derived.Laws.IdiomStrings
namespace Go.Proofs.Ytdchfiiaollheaa
open Go.RowKit

def dig10 (j : Nat) : UInt8 := UInt8.ofNat (48 + j % 10)
/-- The digits of a number, ahead of a text. -/
def digs (j : Nat) (t : ByteArray) : ByteArray := if j = 0 then t else digs (j / 10) (⟨#[dig10 j]⟩ ++ t)
termination_by j
decreasing_by omega
theorem digs_step {j : Nat} (t : ByteArray) (h : 0 < j) : digs (j / 10) (⟨#[dig10 j]⟩ ++ t) = digs j t := by
  rw [digs.eq_def j t, if_neg (by omega)]
theorem digs_zero (t : ByteArray) : digs 0 t = t := by rw [digs.eq_def]; simp
/-- The text of a mark. -/
def mt (k : Nat) : ByteArray := ⟨#[109]⟩ ++ digs k ⟨#[]⟩

theorem conv_one (w : World) (j : Nat) : (convert 22 9 (.slice (some ⟨w.heap.size, 0, none⟩) 1 1)).run Try.prog (w.alloc (.cells #[.int .u8 (48 + (j : Int) % 10)] 5)) = .ok (.string ⟨#[dig10 j]⟩) (w.alloc (.cells #[.int .u8 (48 + (j : Int) % 10)] 5)) := by
  refine run_convert_bytes_back (P := Try.prog) (w.alloc (.cells #[.int .u8 (48 + (j : Int) % 10)] 5)) 22 9 5 ⟨w.heap.size, 0, none⟩ 1 [dig10 j] Try.underlying22 Try.underlying5 Try.underlying9 (fun i hi => ?_)
  obtain rfl : i = 0 := by simpa using hi
  simp [Addr.add, dig10]
  omega

set_option maxRecDepth 20000 in
set_option maxHeartbeats 400000 in
theorem markText_c (k : Nat) (w : World) (h0 : 0 < k) (h : k ≤ 1000000000) : Calls Try.prog 79 #[.int .i64 k] w fun e w' =>
    e = .returned (.string (mt k)) ∧ Below w.heap.size w w' := by
  have k1 : (0 : Int) < (k : Int) := by omega
  go_enter Try.func79, Try.ntmps79
  go_wp2_with fail
  go_loopw [0, 3] (fun i s wr => ∃ (j : Nat) (t : ByteArray), j ≤ k ∧ i = .int .i64 j ∧ s = .string t ∧ Hid (digs j t = digs k ⟨#[]⟩) ∧ t.size + j ≤ k ∧ Below w.heap.size w wr) (fun i _ _ => (intOf i).toNat)
  case atStart => exact ⟨k, ⟨#[]⟩, Nat.le_refl _, rfl, rfl, Lib.hid rfl, Nat.le_of_eq (Nat.zero_add _), Below.refl _ _⟩
  case round =>
    obtain ⟨j, t, hj, rfl, rfl, HD, hts, hbr⟩ := hrel
    by_cases h0 : 0 < j
    · have j0 : (0 : Int) < (j : Int) := by omega
      have b0 : (0 : Int) ≤ (j : Int) % 10 := by omega
      have b1 : (j : Int) % 10 < 10 := by omega
      have hcv := conv_one wr j
      have hd1 : (⟨#[dig10 j]⟩ : ByteArray).size = 1 := rfl
      have hadd := fun wx => run_string_add_sum (P := Try.prog) (w := wx) ⟨#[dig10 j]⟩ t (by rw [hd1]; omega)
      clear hd1
      go_wp2_with fail
      go_roundw
      case rel => exact ⟨j / 10, _, by omega, by go_num, rfl, Lib.hid ((digs_step t h0).trans HD.out), by rw [ByteArray.size_append]; show 1 + t.size + j / 10 ≤ k; omega, by (repeat' first | assumption | exact bel_refl _ | refine bel_al ?_ _ | refine bel_dr ?_ | refine bel_drN ?_ _ | refine bel_nx ?_ (by assumption) | (refine bel_set ?_ (by first | omega | (simp; omega)) _))⟩
      case measure => simp [intOf]; omega
    · obtain rfl : j = 0 := by omega
      have hd1 : (⟨#[109]⟩ : ByteArray).size = 1 := rfl
      have hadd := fun wx => run_string_add_sum (P := Try.prog) (w := wx) ⟨#[109]⟩ t (by rw [hd1]; omega)
      clear hd1
      go_wp2_with fail
      go_ret
      have := HD.out
      rw [digs_zero] at this
      exact ⟨by rw [this]; rfl, hbr⟩
end Go.Proofs.Ytdchfiiaollheaa
