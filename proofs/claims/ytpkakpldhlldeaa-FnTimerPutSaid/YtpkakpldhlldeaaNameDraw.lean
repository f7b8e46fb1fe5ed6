/- The draws of a text of a list, and of a name. -/
import Derived.Test.YtpkakpldhlldeaaDraw
import Derived.Test.YtpkakpldhlldeaaAppend
namespace Go.Proofs.Ytpkakpldhlldeaa
open Go.RowKit

/-- The first m cells are short texts. -/
def Txts (cs : Array Value) (m : Nat) : Prop := ∀ i, i < m → ∃ s : ByteArray, cs[i]? = some (.string s) ∧ s.size ≤ 6

set_option maxHeartbeats 400000 in
theorem of_c (R q g m c : Nat) (cs : Array Value) (w : World) (h : Rd w R (q + 1)) (hg : Blk w g 9 cs) (hne : g ≠ R) (hcs : Txts cs m) (hm : 0 < m) (hm2 : m ≤ 100) : Calls Try.prog 49 #[.pointer (some ⟨R, 0, none⟩), .slice (some ⟨g, 0, none⟩) m c] w fun e w' =>
    ∃ s : ByteArray, e = .returned (.string s) ∧ s.size ≤ 6 ∧ w.grownBy w' (some R) ∧ Rd w' R q := by
  go_enter Try.func49, Try.ntmps49
  go_wp2_with fail
  refine (pick_c R (q) _ _ (by repeat' first | assumption | refine Rd.al ?_ _ | refine Rd.dr ?_ | (refine Rd.set_ ?_ (by simp; omega) _))).mono ?_; rintro e w1 ⟨v1, rfl, ⟨a1, b1, _⟩, hg1, hr1⟩; obtain ⟨hc1, hf1⟩ := pcell hg1; have hl1 := hr1.lt; have hn1 := Nat.ne_of_gt hl1
  have hk1 := hg.gr hg1 (by simp; omega)
  have b1 := b1 (by omega)
  obtain ⟨s, hs, hs6⟩ := hcs v1.toNat (by omega)
  have hx := (hk1.cell v1.toNat).trans hs
  clear hc1 hf1 hs
  go_wp2_with fail
  go_ret
  exact ⟨s, rfl, hs6, hg1, hr1⟩

def oddNames : Array Value := #[.string ⟨#[]⟩, .string ⟨#[65]⟩, .string ⟨#[97, 98, 99, 100, 101, 102]⟩, .string ⟨#[97, 98, 99, 100, 101]⟩, .string ⟨#[97, 49]⟩]
def fineNames : Array Value := #[.string ⟨#[97]⟩, .string ⟨#[98]⟩, .string ⟨#[99]⟩, .string ⟨#[100]⟩, .string ⟨#[101]⟩, .string ⟨#[102]⟩]
theorem oddNames_t : Txts oddNames 5 := by
  intro k h
  rcases (show k = 0 ∨ k = 1 ∨ k = 2 ∨ k = 3 ∨ k = 4 by omega) with rfl | rfl | rfl | rfl | rfl
  all_goals exact ⟨_, rfl, by decide⟩
theorem fineNames_t : Txts fineNames 6 := by
  intro k h
  rcases (show k = 0 ∨ k = 1 ∨ k = 2 ∨ k = 3 ∨ k = 4 ∨ k = 5 by omega) with rfl | rfl | rfl | rfl | rfl | rfl
  all_goals exact ⟨_, rfl, by decide⟩

set_option maxHeartbeats 400000 in
theorem l91Name_c (R q : Nat) (w : World) (h : Rd w R (q + 2)) : Calls Try.prog 37 #[.pointer (some ⟨R, 0, none⟩)] w fun e w' =>
    ∃ s : ByteArray, e = .returned (.string s) ∧ s.size ≤ 6 ∧ w.grownBy w' (some R) ∧ Rd w' R q := by
  go_enter Try.func37, Try.ntmps37
  go_wp2_with fail
  refine (pick_c R (q + 1) _ _ (by repeat' first | assumption | refine Rd.al ?_ _ | refine Rd.dr ?_ | (refine Rd.set_ ?_ (by simp; omega) _))).mono ?_; rintro e w1 ⟨v1, rfl, ⟨a1, b1, _⟩, hg1, hr1⟩; obtain ⟨hc1, hf1⟩ := pcell hg1; have hl1 := hr1.lt; have hn1 := Nat.ne_of_gt hl1
  by_cases h10 : v1 = 0
  · have e0 : (v1 == 0) = true := by simpa using h10
    clear h10
    go_wp2_with fail
    refine (of_c R q w1.heap.size 5 5 oddNames _ (hr1.al _) (Blk.new w1 9 oddNames) (by omega) oddNames_t (by omega) (by omega)).mono ?_
    rintro e w2 ⟨s, rfl, hs, hg2, hr2⟩
    go_wp2_with fail
    go_ret
    exact ⟨s, rfl, hs, gr_nx (gr_al hg1 _) hg2, hr2⟩
  · have e0 : (v1 == 0) = false := by simpa using h10
    clear h10
    go_wp2_with fail
    refine (of_c R q w1.heap.size 6 6 fineNames _ (hr1.al _) (Blk.new w1 9 fineNames) (by omega) fineNames_t (by omega) (by omega)).mono ?_
    rintro e w2 ⟨s, rfl, hs, hg2, hr2⟩
    go_wp2_with fail
    go_ret
    exact ⟨s, rfl, hs, gr_nx (gr_al hg1 _) hg2, hr2⟩

end Go.Proofs.Ytpkakpldhlldeaa
