/- Inboxes compared. -/
import Derived.Test.YtdcojlbekpcejaaInboxTo
namespace Go.Proofs.Ytdcojlbekpcejaa
open Go.RowKit

theorem eqInbox_c (a b : Int) (A B : Option Addr) (n c n' c' : Nat) (l m : List Int) (w : World) (h : SlI w A n c l) (h' : SlI w B n' c' m) : Calls Try.prog 21 #[.agg #[.int .i64 a, .slice A n c], .agg #[.int .i64 b, .slice B n' c']] w fun e w' =>
    e = .returned (.bool (decide (a = b ∧ l = m))) ∧ Below w.heap.size w w' := by
  by_cases hab : a = b
  · subst hab
    by_cases hlm : l = m
    all_goals
      go_enter Try.func21, Try.ntmps21
      go_wp2_with fail
      refine (eqIntS_c A B n c n' c' l m _ ((h.al _).al _) ((h'.al _).al _)).mono ?_
      rintro e w1 ⟨rfl, q, rfl⟩
      go_wp2_with fail
      go_ret
      exact ⟨ret_bool (by simp [hlm]), by (repeat' first | assumption | exact bel_refl _ | refine bel_al ?_ _ | refine bel_dr ?_ | refine bel_drN ?_ _ | refine bel_nx ?_ (by assumption) | (refine bel_set ?_ (by first | omega | (simp; omega)) _))⟩
  · have e2 : (a == b) = false := by simpa using hab
    have HN := Lib.hid (decide_eq_false (p := a = b ∧ l = m) (fun h => hab h.1))
    clear hab
    go_enter Try.func21, Try.ntmps21
    go_wp2_with fail
    go_ret
    exact ⟨ret_bool HN.out.symm, by (repeat' first | exact bel_refl _ | refine bel_al ?_ _ | refine bel_dr ?_ | refine bel_drN ?_ _ | refine bel_nx ?_ (by assumption) | (refine bel_set ?_ (by first | omega | (simp; omega)) _))⟩

end Go.Proofs.Ytdcojlbekpcejaa
