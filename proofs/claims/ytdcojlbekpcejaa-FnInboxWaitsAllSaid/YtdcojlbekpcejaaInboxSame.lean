/- Inboxes of the same numbers compare equal; a cell behind a call that left what was there. -/
import Derived.Test.YtdcojlbekpcejaaInboxDraw
import Derived.Test.YtdcojlbekpcejaaInboxMark
namespace Go.Proofs.Ytdcojlbekpcejaa
open Go.RowKit

theorem sameInbox_same (a : Int) (A B : Option Addr) (n c n' c' : Nat) (l : List Int) (w : World) (h : SlI w A n c l) (h' : SlI w B n' c' l) : Calls Try.prog 36 #[.agg #[.int .i64 a, .slice A n c], .agg #[.int .i64 a, .slice B n' c']] w fun e w' =>
    e = .returned (.bool true) ∧ Below w.heap.size w w' :=
  (sameInbox_c a a A B n c n' c' l l w h h').mono fun e w' ⟨h1, h2⟩ => ⟨by rw [h1, decide_eq_true ⟨rfl, rfl⟩], h2⟩
theorem eqInbox_same (a : Int) (A B : Option Addr) (n c n' c' : Nat) (l : List Int) (w : World) (h : SlI w A n c l) (h' : SlI w B n' c' l) : Calls Try.prog 21 #[.agg #[.int .i64 a, .slice A n c], .agg #[.int .i64 a, .slice B n' c']] w fun e w' =>
    e = .returned (.bool true) ∧ Below w.heap.size w w' :=
  (eqInbox_c a a A B n c n' c' l l w h h').mono fun e w' ⟨h1, h2⟩ => ⟨by rw [h1, decide_eq_true ⟨rfl, rfl⟩], h2⟩
theorem eqIntS_same (A B : Option Addr) (n c n' c' : Nat) (l : List Int) (w : World) (h : SlI w A n c l) (h' : SlI w B n' c' l) : Calls Try.prog 29 #[.slice A n c, .slice B n' c'] w fun e w' =>
    e = .returned (.bool true) ∧ Below w.heap.size w w' :=
  (eqIntS_c A B n c n' c' l l w h h').mono fun e w' ⟨h1, q, h2⟩ => ⟨by rw [h1, decide_eq_true rfl], by rw [h2]; exact bel_drN (bel_refl _) _⟩
theorem sameInts_same (A B : Option Addr) (n c n' c' : Nat) (l : List Int) (w : World) (h : SlI w A n c l) (h' : SlI w B n' c' l) : Calls Try.prog 28 #[.slice A n c, .slice B n' c'] w fun e w' =>
    e = .returned (.bool true) ∧ Below w.heap.size w w' :=
  (sameInts_c A B n c n' c' l l w h h').mono fun e w' ⟨h1, h2⟩ => ⟨by rw [h1, decide_eq_true rfl], h2⟩
theorem cell_on {w w' : World} {p : Addr} {v : Value} (hb : Below w.heap.size w w') (h : w.cell? p = some v) : w'.cell? p = some v :=
  ((bcell hb (Nat.le_refl _)).1 p (by rw [h]; rfl)).trans h

end Go.Proofs.Ytdcojlbekpcejaa
