/- Inboxes copied, measured and compared. -/
import Derived.Test.YtdcojlbekpcejaaInbox2
import Derived.Test.YtdcojlbekpcejaaAppend
namespace Go.Proofs.Ytdcojlbekpcejaa
open Go.RowKit

theorem own_low {w : World} {B : Nat} {e : TypeId} {k n : Nat} {v : Value} {xs : List Value} (h : w.ownsRow B e k v n xs) {p : Nat} (hp : p < B) (o : Nat) (u : Value) : (w.setCell ⟨p, o, none⟩ u).ownsRow B e k v n xs :=
  h.kept (gr_cell w p o u) (.inr (fun he => by have := (h.lt p he).1; omega))

set_option maxHeartbeats 400000 in
theorem toInbox_c (a : Int) (A : Option Addr) (n c : Nat) (l : List Int) (w : World) (h : SlI w A n c l) (hn : n ≤ 1048576) : Calls Try.prog 20 #[.agg #[.int .i64 a, .slice A n c]] w fun e w' =>
    ∃ A' c', e = .returned (.agg #[.int .i64 a, .slice A' n c']) ∧ w'.ownsRow w.heap.size 3 1 (.slice A' n c') n (l.map (Value.int .i64)) ∧ Below w.heap.size w w' := by
  go_enter Try.func20, Try.ntmps20
  go_wp2_with fail
  refine (toIntS_c A n c l _ (((h.al _).al _).al _) hn).mono ?_
  rintro e w1 ⟨A1, c1, rfl, hown, hb1⟩
  have k0 := ((Blk.new (w.alloc (.cells #[.int .i64 a, .slice A n c] 29)) 25 #[.int .i64 0, .slice none 0 0]).al (.cells #[.int .i64 a, .slice none 0 0] 25)).bel hb1
  have k1 := (Blk.new ((w.alloc (.cells #[.int .i64 a, .slice A n c] 29)).alloc (.cells #[.int .i64 0, .slice none 0 0] 25)) 25 #[.int .i64 a, .slice none 0 0]).bel hb1
  simp only [World.alloc, Array.size_push] at k0 k1
  have c0 := k0.cell
  have f0 := k0.frozen
  have c1' := k1.cell
  have f1 := k1.frozen
  have hl1 := k1.lt
  go_wp2_with fail
  have kz := ((k0.far (p := ⟨w.heap.size + 1 + 1, 1, none⟩) (by simp) (.slice A1 n c1)).set_ 0 (.int .i64 a)).set_ 1 (.slice A1 n c1)
  have cz := kz.cell
  refine bodyPost_ret (v := .agg #[.int .i64 a, .slice A1 n c1]) (by simp [results, Try.results20, go_sem, cz]) rfl ⟨_, _, rfl, ?_, ?_⟩
  · exact ownsRow_base (own_low (own_low (own_low hown (by simp) _ _) (by simp) _ _) (by simp) _ _) (by simp; omega)
  · exact bel_set (bel_set (bel_set (bel_nx (bel_al (bel_al (bel_al (bel_refl _) _) _) _) hb1) (by simp; omega) _) (by simp) _) (by simp) _

theorem szInbox_c (a : Int) (A : Option Addr) (n c : Nat) (left : Int) (w : World) (h0 : 0 ≤ left) (h1 : left ≤ 1048576) (hc : n ≤ 9223372036854775807) : Calls Try.prog 19 #[.agg #[.int .i64 a, .slice A n c], .int .i64 left] w fun e w' =>
    ∃ r : Int, e = .returned (.int .i64 r) ∧ (r < 0 ∨ (0 ≤ r ∧ (n : Int) ≤ left)) ∧ Below w.heap.size w w' := by
  by_cases hn : left < n
  · go_enter Try.func19, Try.ntmps19
    go_wp2
    go_ret
    exact ⟨_, rfl, .inl (by omega), by (repeat' first | exact bel_refl _ | refine bel_al ?_ _ | refine bel_dr ?_ | refine bel_drN ?_ _ | refine bel_nx ?_ (by assumption) | (refine bel_set ?_ (by first | omega | (simp; omega)) _))⟩
  · have hn2 : (0 : Int) ≤ left - n := by omega
    go_enter Try.func19, Try.ntmps19
    go_wp2
    go_ret
    exact ⟨_, rfl, .inr (by omega), by (repeat' first | exact bel_refl _ | refine bel_al ?_ _ | refine bel_dr ?_ | refine bel_drN ?_ _ | refine bel_nx ?_ (by assumption) | (refine bel_set ?_ (by first | omega | (simp; omega)) _))⟩

end Go.Proofs.Ytdcojlbekpcejaa
