/- The draw of leases beside a time, a name, an owner and a span. -/
import Derived.Test.YthkgechljfjpdaaLeasesDraw
import Derived.Test.YthkgechljfjpdaaNameDraw
namespace Go.Proofs.Ythkgechljfjpdaa
open Go.RowKit

def takeNames : Array Value := #[.string ⟨#[97]⟩, .string ⟨#[98]⟩, .string ⟨#[99]⟩, .string ⟨#[100]⟩, .string ⟨#[122, 122]⟩, .string ⟨#[66]⟩]
theorem takeNames_t : Txts takeNames 6 := by
  intro k h
  rcases (show k = 0 ∨ k = 1 ∨ k = 2 ∨ k = 3 ∨ k = 4 ∨ k = 5 by omega) with rfl | rfl | rfl | rfl | rfl | rfl
  all_goals exact ⟨_, rfl, by decide⟩

set_option maxHeartbeats 1000000 in
theorem drawLeaseTake_c (A : Option Addr) (n c : Nat) (zs : List Int) (w : World) (h : IsRow .u8 w A n c zs) : Calls Try.prog 32 #[.slice A n c] w fun e w' =>
    ∃ A' n' c' l now s o span, e = .returned (.tuple #[.slice A' n' c', .int .i64 now, .string s, .int .i64 o, .int .i64 span]) ∧ SlR w' A' n' c' l ∧ n' ≤ 8 ∧ Sz5 l ∧ s.size ≤ 6 ∧ Below w.heap.size w w' := by
  go_enter Try.func32, Try.ntmps32
  go_wp2_with fail
  refine (l6Open_c A n c zs _ h).mono ?_
  rintro e w1 ⟨R, rfl, hrd, hb1, hR⟩
  go_wp2_with fail
  refine (l92Leases_c R 970 _ hrd).mono ?_
  rintro e w2 ⟨B, m, d, l, rfl, ho, hm, h5, hg2, hr2⟩
  have hRw := hrd.lt
  have hb2 := bel_gr hb1 hg2 hR
  go_wp2_with fail
  refine (pick_c R (969) _ _ (by repeat' first | assumption | refine Rd.al ?_ _ | refine Rd.dr ?_ | (refine Rd.set_ ?_ (by simp; omega) _))).mono ?_; rintro e w3 ⟨v3, rfl, ⟨a3, b3, _⟩, hg3, hr3⟩; obtain ⟨hc3, hf3⟩ := pcell hg3; have hl3 := hr3.lt; have hn3 := Nat.ne_of_gt hl3
  have ho3 := own_gr ho hg3 hRw
  have hb3 := bel_gr hb2 hg3 hR
  clear hc3 hf3
  go_wp2_with fail
  refine (of_c R 968 w3.heap.size 6 6 takeNames _ (hr3.al _) (Blk.new w3 9 takeNames) (by omega) takeNames_t (by omega) (by omega)).mono ?_
  rintro e w4 ⟨s, rfl, hs, hg4, hr4⟩
  have ho4 := own_gr (ho3.alloc _) hg4 hRw
  have hb4 := bel_gr (bel_al hb3 _) hg4 hR
  go_wp2_with fail
  refine (pick_c R (967) _ _ (by repeat' first | assumption | refine Rd.al ?_ _ | refine Rd.dr ?_ | (refine Rd.set_ ?_ (by simp; omega) _))).mono ?_; rintro e w5 ⟨v5, rfl, ⟨a5, b5, _⟩, hg5, hr5⟩; obtain ⟨hc5, hf5⟩ := pcell hg5; have hl5 := hr5.lt; have hn5 := Nat.ne_of_gt hl5
  have ho5 := own_gr ho4 hg5 hRw
  have hb5 := bel_gr hb4 hg5 hR
  clear hc5 hf5
  go_wp2_with fail
  refine (pick_c R (966) _ _ (by repeat' first | assumption | refine Rd.al ?_ _ | refine Rd.dr ?_ | (refine Rd.set_ ?_ (by simp; omega) _))).mono ?_; rintro e w6 ⟨v6, rfl, ⟨a6, b6, _⟩, hg6, hr6⟩; obtain ⟨hc6, hf6⟩ := pcell hg6; have hl6 := hr6.lt; have hn6 := Nat.ne_of_gt hl6
  have ho6 := own_gr ho5 hg6 hRw
  have hb6 := bel_gr hb5 hg6 hR
  clear hc6 hf6
  go_wp2_with fail
  refine bodyPost_ret (v := .tuple #[.slice B m d, .int .i64 v3, .string s, .int .i64 (1 + v5), .int .i64 v6]) (by simp [results, Try.results32, go_sem]) rfl ⟨_, _, _, l, _, s, _, _, rfl, SlR.of_own ho6, hm, h5, hs, hb6⟩

end Go.Proofs.Ythkgechljfjpdaa
