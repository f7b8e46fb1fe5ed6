/- Timers are valid: the walk over the program's TimersValid. -/
import Derived.Test.YtpkakpldhlldeaaTimCmp
import Derived.Test.YtpkakpldhlldeaaTimBef
import Derived.Test.YtpkakpldhlldeaaMapSet
import Derived.Deep.Cut
import Derived.Deep.CutRange
import Derived.Deep.CutBlock
import Derived.Deep.DeepCutAuto
namespace Go.Proofs.Ytpkakpldhlldeaa
open Go.RowKit Go.Maps

theorem implNameValid_b (s : ByteArray) (b : Bool) (w : World) (hs : s.size ≤ 9223372036854775807) (hb : nameB s = b) : Calls Try.prog 50 #[.string s] w fun e w' => e = .returned (.bool b) ∧ w = w' := by
  rw [← hb]; exact implNameValid_c s w hs
theorem isTime_b (x : Int) (b : Bool) (w : World) (hb : decide (0 ≤ x ∧ x ≤ 9999) = b) : Calls Try.prog 46 #[.int .i64 x] w fun e w' => e = .returned (.bool b) ∧ w = w' := by
  have HB := Lib.hid hb
  clear hb
  rcases (show 0 ≤ x ∧ x ≤ 9999 ∨ x < 0 ∨ (0 ≤ x ∧ 9999 < x) by omega) with ⟨h1, h2⟩ | h1 | ⟨h1, h2⟩
  · have d1 : decide (0 ≤ x) = true := decide_eq_true h1
    have d2 : decide (x ≤ 9999) = true := decide_eq_true h2
    have HC := Lib.hid (decide_eq_true (p := 0 ≤ x ∧ x ≤ 9999) ⟨h1, h2⟩)
    clear h1 h2
    go_enter Try.func46, Try.ntmps46
    go_wp2_with fail
    go_ret
    exact ⟨ret_bool (by rw [← HB.out, HC.out]), rfl⟩
  · have d1 : decide (0 ≤ x) = false := decide_eq_false (by omega)
    have HC := Lib.hid (decide_eq_false (p := 0 ≤ x ∧ x ≤ 9999) (by omega))
    clear h1
    go_enter Try.func46, Try.ntmps46
    go_wp2_with fail
    go_ret
    exact ⟨ret_bool (by rw [← HB.out, HC.out]), rfl⟩
  · have d1 : decide (0 ≤ x) = true := decide_eq_true h1
    have d2 : decide (x ≤ 9999) = false := decide_eq_false (by omega)
    have HC := Lib.hid (decide_eq_false (p := 0 ≤ x ∧ x ≤ 9999) (by omega))
    clear h1 h2
    go_enter Try.func46, Try.ntmps46
    go_wp2_with fail
    go_ret
    exact ⟨ret_bool (by rw [← HB.out, HC.out]), rfl⟩

theorem timerValid_b (x : Int) (s : ByteArray) (b : Bool) (w : World) (hs : s.size ≤ 9223372036854775807) (hb : okT (x, s) = b) : Calls Try.prog 38 #[.agg #[.int .i64 x, .string s]] w fun e w' => e = .returned (.bool b) ∧ Below w.heap.size w w' := by
  have HB := Lib.hid hb
  clear hb
  obtain ⟨b1, h1⟩ : ∃ b, decide (0 ≤ x ∧ x ≤ 9999) = b := ⟨_, rfl⟩
  obtain ⟨b2, h2⟩ : ∃ b, nameB s = b := ⟨_, rfl⟩
  have HC : Hid (b = (b1 && b2)) := Lib.hid (by rw [← HB.out, ← h1, ← h2]; rfl)
  have H1 := Lib.hid h1
  have H2 := Lib.hid h2
  clear h1 h2
  go_enter Try.func38, Try.ntmps38
  go_wp2_with fail
  have ka := Blk.new w 25 #[.int .i64 x, .string s]
  have ca := ka.cell
  refine (isTime_b x b1 _ H1.out).mono ?_
  rintro e w2 ⟨rfl, rfl⟩
  cases b1
  · go_wp2_with fail
    go_ret
    exact ⟨ret_bool (by rw [HC.out]; rfl), by (repeat' first | exact bel_refl _ | refine bel_al ?_ _ | refine bel_dr ?_ | refine bel_drN ?_ _ | refine bel_nx ?_ (by assumption) | (refine bel_set ?_ (by first | omega | (simp; omega)) _))⟩
  · go_wp2_with fail
    refine (implNameValid_b s b2 _ hs H2.out).mono ?_
    rintro e w3 ⟨rfl, rfl⟩
    go_wp2_with fail
    go_ret
    exact ⟨ret_bool (by rw [HC.out]; simp), by (repeat' first | exact bel_refl _ | refine bel_al ?_ _ | refine bel_dr ?_ | refine bel_drN ?_ _ | refine bel_nx ?_ (by assumption) | (refine bel_set ?_ (by first | omega | (simp; omega)) _))⟩

end Go.Proofs.Ytpkakpldhlldeaa
