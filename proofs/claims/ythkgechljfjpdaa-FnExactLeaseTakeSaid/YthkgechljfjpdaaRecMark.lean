/- Slices of records of a name and two numbers: marked, and asked for the marks. -/
import Derived.Test.YthkgechljfjpdaaRecS
import Derived.Test.YthkgechljfjpdaaAppend
import Derived.Test.YthkgechljfjpdaaMarkText
namespace Go.Proofs.Ythkgechljfjpdaa
open Go.RowKit

/-- What n records hold when they have been marked from k on. -/
def mark1 (k i : Nat) : R3 := (mt (k + 3 * i), ((k + 3 * i + 1 : Nat) : Int), ((k + 3 * i + 2 : Nat) : Int))
def marks (k n : Nat) : List R3 := (List.range n).map (mark1 k)
theorem marks_len (k n : Nat) : (marks k n).length = n := by simp [marks]
theorem marks_at {k n i : Nat} (h : i < n) : (marks k n)[i]? = some (mark1 k i) := by simp [marks, h]
theorem marks_snoc (k n : Nat) : marks k (n + 1) = marks k n ++ [mark1 k n] := by simp [marks, List.range_succ]
/-- The first j of them are marked. -/
def mkd (k : Nat) (l : List R3) (j : Nat) : List R3 := marks k j ++ l.drop j
theorem mkd_len {k : Nat} {l : List R3} {j : Nat} (h : j ≤ l.length) : (mkd k l j).length = l.length := by simp [mkd, marks_len]; omega
theorem mkd_step {k : Nat} {l : List R3} {j : Nat} (h : j < l.length) : (mkd k l j).set j (mark1 k j) = mkd k l (j + 1) := by
  unfold mkd
  rw [List.set_append_right _ _ (by rw [marks_len]; omega), marks_len, Nat.sub_self, List.drop_eq_getElem_cons h, List.set_cons_zero, marks_snoc, List.append_assoc]
  rfl

set_option maxHeartbeats 400000 in
theorem markRecS_c (B : Nat) (A : Option Addr) (n c k : Nat) (l : List R3) (w : World) (hown : w.ownsRow B 45 3 (.slice A n c) n (l.flatMap encR)) (hk : 0 < k) (hk2 : k + 3 * n ≤ 100000000) : Calls Try.prog 23 #[.slice A n c, .int .i64 k] w fun e w' =>
    e = .returned (.int .i64 ((k + 3 * n : Nat) : Int)) ∧ w'.ownsRow B 45 3 (.slice A n c) n ((marks k n).flatMap encR) ∧ w.grownBy w' (Value.slice A n c).ownBlock := by
  have hs := SlR.of_own hown
  have HL := Lib.hid hs.len
  have hcap := hs.cap
  have hmax := hs.max
  go_enter Try.func23, Try.ntmps23
  go_wp2_with fail
  go_loopw [5, 1] (fun i m wr => ∃ j q : Nat, j ≤ n ∧ q = k + 3 * j ∧ i = .int .i64 j ∧ m = .int .i64 q ∧ wr.ownsRow B 45 3 (.slice A n c) n ((mkd k l j).flatMap encR) ∧ w.grownBy wr (Value.slice A n c).ownBlock) (fun i _ _ => n - (intOf i).toNat)
  case atStart => exact ⟨0, k, Nat.zero_le _, rfl, rfl, rfl, hown, World.grownBy.refl w _⟩
  case round =>
    obtain ⟨j, q, hj, hq, rfl, rfl, ho, hg⟩ := hrel
    have HQ := Lib.hid hq
    have q1 : 0 < q := by omega
    have q2 : q ≤ 100000000 := by omega
    clear hq
    by_cases hlt : j < n
    · obtain ⟨g, cap, hA, hgB, hgL⟩ := ho.form (by omega)
      obtain ⟨rfl, _, rfl⟩ := slice_inj hA
      have i0 : (0 : Int) ≤ (j : Int) := by omega
      have i1 : (j : Int) < (n : Int) := by omega
      go_wp2_with fail
      refine (markText_c q _ q1 (by omega)).mono ?_
      rintro e w2 ⟨rfl, hb2⟩
      have ho2 := own_bel ho hb2
      obtain ⟨⟨v0, hco0⟩, hcf0⟩ := own_at ho2 (j := j * 3) (by omega)
      obtain ⟨⟨v1, hco1⟩, hcf1⟩ := own_at ho2 (j := j * 3 + 1) (by omega)
      obtain ⟨⟨v2, hco2⟩, hcf2⟩ := own_at ho2 (j := j * 3 + 2) (by omega)
      go_wp2_with fail
      go_roundw
      case rel =>
        have hq := HQ.out
        refine ⟨j + 1, q + 3, by omega, by omega, by go_num, by go_num, ?_, ?_⟩
        · have h1 := (ho2.stored (j * 3) (.string (mt q))).1
          have h2 := (h1.stored (j * 3 + 1) (.int .i64 (↑q + 1))).1
          have h3 := (h2.stored (j * 3 + 2) (.int .i64 (↑q + 1 + 1))).1
          have e3 := flat_set3 (enc := encR) (f := fun r => .string r.1) (g := fun r => .int .i64 r.2.1) (h := fun r => .int .i64 r.2.2) (fun _ => rfl) (mark1 k j) (mkd k l j) j
          rw [mkd_step (by rw [HL.out]; exact hlt)] at e3
          rw [← e3]
          simp only [mark1, ← hq]
          have e4 : ((q : Int) + 1 + 1) = ((q + 2 : Nat) : Int) := by omega
          have e5 : ((q : Int) + 1) = ((q + 1 : Nat) : Int) := by omega
          rw [e4, e5] at h3 ⊢
          exact h3
        · have hg2 : w.grownBy w2 (Value.slice (some ⟨g, 0, none⟩) n c).ownBlock := ⟨hb2.os.trans hg.os, hb2.tape.trans hg.tape, hb2.output.trans hg.output, Nat.le_trans hg.size hb2.size, fun i hi hne => (hb2.block i (Nat.lt_of_lt_of_le hi hg.size)).trans (hg.block i hi hne)⟩
          exact ((hg2.trans (gr_cell _ g _ _)).trans (gr_cell _ g _ _)).trans (gr_cell _ g _ _)
      case measure => simp [intOf]; omega
    · obtain rfl : j = n := by omega
      go_wp2_with fail
      go_ret
      have hq := HQ.out
      subst hq
      refine ⟨rfl, ?_, hg⟩
      have : mkd k l j = marks k j := by
        unfold mkd; rw [List.drop_eq_nil_of_le (by rw [HL.out]; exact Nat.le_refl _), List.append_nil]
      rw [this] at ho
      exact ho

theorem mark_parts {k n j q : Nat} {s : ByteArray} {x y : Int} (h : (marks k n)[j]? = some (s, x, y)) (hj : j < n) (hq : q = k + 3 * j) : s = mt q ∧ x = ((q + 1 : Nat) : Int) ∧ y = ((q + 2 : Nat) : Int) := by
  rw [marks_at hj] at h
  subst hq
  simp only [mark1, Option.some.injEq, Prod.mk.injEq] at h
  exact ⟨h.1.symm, h.2.1.symm, h.2.2.symm⟩

theorem markText_b (q : Nat) (s : ByteArray) (w : World) (h0 : 0 < q) (h : q ≤ 1000000000) (hs : s = mt q) : Calls Try.prog 46 #[.int .i64 q] w fun e w' => e = .returned (.string s) ∧ Below w.heap.size w w' := by
  subst hs; exact markText_c q w h0 h

set_option maxHeartbeats 1000000 in
theorem heldRecS_c (A : Option Addr) (n c k : Nat) (w : World) (h : SlR w A n c (marks k n)) (hk : 0 < k) (hk2 : k + 3 * n ≤ 100000000) : Calls Try.prog 24 #[.slice A n c, .int .i64 k] w fun e w' =>
    e = .returned (.int .i64 ((k + 3 * n : Nat) : Int)) ∧ Below w.heap.size w w' := by
  have hcap := h.cap
  have hmax := h.max
  go_enter Try.func24, Try.ntmps24
  go_wp2_with fail
  go_loopw [5, 1] (fun i m wr => ∃ j q : Nat, j ≤ n ∧ q = k + 3 * j ∧ i = .int .i64 j ∧ m = .int .i64 q ∧ Below w.heap.size w wr) (fun i _ _ => n - (intOf i).toNat)
  case atStart => exact ⟨0, k, Nat.zero_le _, rfl, rfl, rfl, Below.refl _ _⟩
  case round =>
    obtain ⟨j, q, hj, hq, rfl, rfl, hbr⟩ := hrel
    have HQ := Lib.hid hq
    have q1 : 0 < q := by omega
    have q2 : q ≤ 100000000 := by omega
    clear hq
    by_cases hlt : j < n
    · obtain ⟨b, off, s, x, y, rfl, hx, hc0, hc1, hc2⟩ := SlR.get (h.bel hbr) hlt
      obtain ⟨es, rfl, rfl⟩ := mark_parts hx hlt HQ.out
      have HS := Lib.hid es
      clear es hx
      have i0 : (0 : Int) ≤ (j : Int) := by omega
      have i1 : (j : Int) < (n : Int) := by omega
      have es : (s.toList == s.toList) = true := by simp
      go_wp2_with fail
      go_region_held3 (fun w' => w'.cell? ⟨b, off + j * 3, none⟩ = some (.string s)) (first | go_keep | exact hc0 | exact cell_later hb2 hc0)
        ((first | (go_at_call 46; refine (markText_b q s _ q1 (by omega) HS.out).mono ?_; rintro e w2 ⟨rfl, hb2⟩)))
      have g1 := cell_later hb2 (show wr.drew.cell? _ = _ from hc1)
      have g2 := cell_later hb2 (show wr.drew.cell? _ = _ from hc2)
      go_wp2_with fail
      go_roundw
      case rel =>
        have hq := HQ.out
        exact ⟨j + 1, q + 3, by omega, by omega, by go_num, by go_num, bel_nx (bel_dr hbr) hb2⟩
      case measure => simp [intOf]; omega
    · obtain rfl : j = n := by omega
      go_wp2_with fail
      go_ret
      have hq := HQ.out
      subst hq
      exact ⟨rfl, hbr⟩

end Go.Proofs.Ythkgechljfjpdaa
