/- The reference's l15Before and l15At; a timer is valid. -/
import Derived.Test.YtpkakpldhlldeaaTimPlain
import Derived.Test.YtpkakpldhlldeaaTimS
import Derived.BigQuiet
namespace Go.Proofs.Ytpkakpldhlldeaa
open Go.RowKit

theorem before_c (x y : Int) (s t : ByteArray) (w : World) : Calls Try.prog 43 #[.agg #[.int .i64 x, .string s], .agg #[.int .i64 y, .string t]] w fun e w' =>
    e = .returned (.bool (ltT (x, s) (y, t))) ∧ Below w.heap.size w w' := by
  by_cases h1 : x < y
  · have d1 : decide (x < y) = true := decide_eq_true h1
    have HF : Hid (ltT (x, s) (y, t) = true) := Lib.hid (by simp [ltT, h1])
    clear h1
    go_enter Try.func43, Try.ntmps43
    go_wp2_with fail
    go_ret
    exact ⟨ret_bool HF.out.symm, by (repeat' first | exact bel_refl _ | refine bel_al ?_ _ | refine bel_dr ?_ | refine bel_drN ?_ _ | refine bel_nx ?_ (by assumption) | (refine bel_set ?_ (by first | omega | (simp; omega)) _))⟩
  · have d1 : decide (x < y) = false := decide_eq_false h1
    by_cases h2 : x = y
    · subst h2
      obtain ⟨b, hb⟩ : ∃ b, ltS s t = b := ⟨_, rfl⟩
      have d2 : Op.bytesLess s.toList t.toList = b := hb
      have HF : Hid (ltT (x, s) (x, t) = b) := Lib.hid (by simp [ltT, hb])
      clear h1 hb
      cases b
      all_goals
        go_enter Try.func43, Try.ntmps43
        go_wp2_with fail
        go_ret
        exact ⟨ret_bool HF.out.symm, by (repeat' first | exact bel_refl _ | refine bel_al ?_ _ | refine bel_dr ?_ | refine bel_drN ?_ _ | refine bel_nx ?_ (by assumption) | (refine bel_set ?_ (by first | omega | (simp; omega)) _))⟩
    · have d2 : (x == y) = false := by simpa using h2
      have HF : Hid (ltT (x, s) (y, t) = false) := Lib.hid (by simp [ltT, h1, h2])
      clear h1 h2
      go_enter Try.func43, Try.ntmps43
      go_wp2_with fail
      go_ret
      exact ⟨ret_bool HF.out.symm, by (repeat' first | exact bel_refl _ | refine bel_al ?_ _ | refine bel_dr ?_ | refine bel_drN ?_ _ | refine bel_nx ?_ (by assumption) | (refine bel_set ?_ (by first | omega | (simp; omega)) _))⟩

/-- Where a name is first found: below k just if it is among the first k names. -/
def atT : List R2 → ByteArray → Nat → Int
  | [], _, _ => -1
  | r :: l, s, k => if r.2 = s then (k : Int) else atT l s (k + 1)

end Go.Proofs.Ytpkakpldhlldeaa
