/- Lists that are marked, one element after the other; slices of texts marked, and asked for the marks. -/
import Derived.Test.YtdchfiiaollheaaTexts
import Derived.Test.YtdchfiiaollheaaAppend
import Derived.Test.YtdchfiiaollheaaMarkText
namespace Go.Proofs.Ytdchfiiaollheaa
open Go.RowKit

section
variable {α : Type} (f : Nat → α)
def marksG (n : Nat) : List α := (List.range n).map f
theorem marksG_len (n : Nat) : (marksG f n).length = n := by simp [marksG]
theorem marksG_at {n i : Nat} (h : i < n) : (marksG f n)[i]? = some (f i) := by simp [marksG, h]
theorem marksG_snoc (n : Nat) : marksG f (n + 1) = marksG f n ++ [f n] := by simp [marksG, List.range_succ]
/-- The first j of them are marked. -/
def mkdG (l : List α) (j : Nat) : List α := marksG f j ++ l.drop j
theorem mkdG_step {l : List α} {j : Nat} (h : j < l.length) : (mkdG f l j).set j (f j) = mkdG f l (j + 1) := by
  unfold mkdG
  rw [List.set_append_right _ _ (by rw [marksG_len]; omega), marksG_len, Nat.sub_self, List.drop_eq_getElem_cons h, List.set_cons_zero, marksG_snoc, List.append_assoc]
  rfl
theorem mkdG_zero (l : List α) : mkdG f l 0 = l := by simp [mkdG, marksG]
theorem mkdG_all {l : List α} {n : Nat} (h : l.length = n) : mkdG f l n = marksG f n := by
  unfold mkdG; rw [List.drop_eq_nil_of_le (by omega), List.append_nil]
end

/-- A row that was there before another one was made lies elsewhere. -/
theorem own_apart {w1 w2 : World} {B1 B2 : Nat} {e1 e2 : TypeId} {s1 s2 : Nat} {v1 v2 : Value} {n1 n2 : Nat} {x1 x2 : List Value} (h1 : w1.ownsRow B1 e1 s1 v1 n1 x1) (h2 : w2.ownsRow B2 e2 s2 v2 n2 x2) (hB : w1.heap.size ≤ B2) :
    (v1.ownBlock = none ∨ v1.ownBlock ≠ v2.ownBlock) ∧ (v2.ownBlock = none ∨ v2.ownBlock ≠ v1.ownBlock) := by
  constructor
  · rcases h : v1.ownBlock with _ | k
    · exact .inl rfl
    · refine .inr fun e => ?_
      have a := (h1.lt k h).2
      have b := (h2.lt k e.symm).1
      omega
  · rcases h : v2.ownBlock with _ | k
    · exact .inl rfl
    · refine .inr fun e => ?_
      have a := (h2.lt k h).1
      have b := (h1.lt k e.symm).2
      omega

theorem flat_setS (s : ByteArray) : ∀ (l : List ByteArray) (i : Nat), (l.map Value.string).set i (.string s) = (l.set i s).map Value.string := fun l i => by rw [List.map_set]

def mtS (k i : Nat) : ByteArray := mt (k + i)

set_option maxHeartbeats 400000 in
theorem markStringS_c (B : Nat) (A : Option Addr) (n c k : Nat) (l : List ByteArray) (w : World) (hown : w.ownsRow B 9 1 (.slice A n c) n (l.map Value.string)) (hk : 0 < k) (hk2 : k + n ≤ 100000000) : Calls Try.prog 47 #[.slice A n c, .int .i64 k] w fun e w' =>
    e = .returned (.int .i64 ((k + n : Nat) : Int)) ∧ w'.ownsRow B 9 1 (.slice A n c) n ((marksG (mtS k) n).map Value.string) ∧ w.grownBy w' (Value.slice A n c).ownBlock := by
  have hs := SlS.of_own hown
  have HL := Lib.hid hs.len
  have hcap := hs.cap
  have hmax := hs.max
  go_enter Try.func47, Try.ntmps47
  go_wp2_with fail
  go_loopw [5, 1] (fun i m wr => ∃ j q : Nat, j ≤ n ∧ q = k + j ∧ i = .int .i64 j ∧ m = .int .i64 q ∧ wr.ownsRow B 9 1 (.slice A n c) n ((mkdG (mtS k) l j).map Value.string) ∧ w.grownBy wr (Value.slice A n c).ownBlock) (fun i _ _ => n - (intOf i).toNat)
  case atStart => exact ⟨0, k, Nat.zero_le _, rfl, rfl, rfl, by rw [mkdG_zero]; exact hown, World.grownBy.refl w _⟩
  case round =>
    obtain ⟨j, q, hj, hq, rfl, rfl, ho, hg⟩ := hrel
    have HQ := Lib.hid hq
    have q1 : 0 < q := by omega
    have q2 : q ≤ 100000000 := by omega
    clear hq
    by_cases hlt : j < n
    · obtain ⟨g, cap, hA, hgB, hgL⟩ := ho.form (by omega)
      obtain ⟨rfl, _, rfl⟩ := slice_inj hA
      have i0 : (0 : Int) ≤ (j : Int) := by omega
      have i1 : (j : Int) < (n : Int) := by omega
      go_wp2_with fail
      refine (markText_c q _ q1 (by omega)).mono ?_
      rintro e w2 ⟨rfl, hb2⟩
      have ho2 := own_bel ho hb2
      obtain ⟨⟨v0, hco0⟩, hcf0⟩ := own_at ho2 (j := j) (by omega)
      go_wp2_with fail
      go_roundw
      case rel =>
        have hq := HQ.out
        refine ⟨j + 1, q + 1, by omega, by omega, by go_num, by go_num, ?_, ?_⟩
        · have h1 := (ho2.stored j (.string (mt q))).1
          rw [flat_setS, hq, show mt (k + j) = mtS k j from rfl, mkdG_step _ (by rw [HL.out]; exact hlt)] at h1
          simpa only [hq, mtS] using h1
        · have hg2 : w.grownBy w2 (Value.slice (some ⟨g, 0, none⟩) n c).ownBlock := ⟨hb2.os.trans hg.os, hb2.tape.trans hg.tape, hb2.output.trans hg.output, Nat.le_trans hg.size hb2.size, fun i hi hne => (hb2.block i (Nat.lt_of_lt_of_le hi hg.size)).trans (hg.block i hi hne)⟩
          exact hg2.trans (gr_cell _ g _ _)
      case measure => simp [intOf]; omega
    · obtain rfl : j = n := by omega
      go_wp2_with fail
      go_ret
      have hq := HQ.out
      subst hq
      refine ⟨rfl, ?_, hg⟩
      rw [mkdG_all _ HL.out] at ho
      exact ho

theorem markText_b (q : Nat) (s : ByteArray) (w : World) (h0 : 0 < q) (h : q ≤ 1000000000) (hs : s = mt q) : Calls Try.prog 79 #[.int .i64 q] w fun e w' => e = .returned (.string s) ∧ Below w.heap.size w w' := by
  subst hs; exact markText_c q w h0 h
theorem mtS_at {k n j q : Nat} {s : ByteArray} (h : (marksG (mtS k) n)[j]? = some s) (hj : j < n) (hq : q = k + j) : s = mt q := by
  rw [marksG_at _ hj] at h
  subst hq
  exact (Option.some.inj h).symm

set_option maxHeartbeats 1000000 in
theorem heldStringS_c (A : Option Addr) (n c k : Nat) (w : World) (h : SlS w A n c (marksG (mtS k) n)) (hk : 0 < k) (hk2 : k + n ≤ 100000000) : Calls Try.prog 48 #[.slice A n c, .int .i64 k] w fun e w' =>
    e = .returned (.int .i64 ((k + n : Nat) : Int)) ∧ Below w.heap.size w w' := by
  have hcap := h.cap
  have hmax := h.max
  go_enter Try.func48, Try.ntmps48
  go_wp2_with fail
  go_loopw [5, 1] (fun i m wr => ∃ j q : Nat, j ≤ n ∧ q = k + j ∧ i = .int .i64 j ∧ m = .int .i64 q ∧ Below w.heap.size w wr) (fun i _ _ => n - (intOf i).toNat)
  case atStart => exact ⟨0, k, Nat.zero_le _, rfl, rfl, rfl, Below.refl _ _⟩
  case round =>
    obtain ⟨j, q, hj, hq, rfl, rfl, hbr⟩ := hrel
    have HQ := Lib.hid hq
    have q1 : 0 < q := by omega
    have q2 : q ≤ 100000000 := by omega
    clear hq
    by_cases hlt : j < n
    · obtain ⟨b, off, s, rfl, hx, hc0⟩ := SlS.get (h.bel hbr) hlt
      have es := mtS_at hx hlt HQ.out
      have HS := Lib.hid es
      clear es hx
      have i0 : (0 : Int) ≤ (j : Int) := by omega
      have i1 : (j : Int) < (n : Int) := by omega
      have es : (s.toList == s.toList) = true := by simp
      go_wp2_with fail
      go_region_held3 (fun w' => w'.cell? ⟨b, off + j, none⟩ = some (.string s)) (first | go_keep | exact hc0 | exact cell_later hb2 hc0)
        ((first | (go_at_call 79; refine (markText_b q s _ q1 (by omega) HS.out).mono ?_; rintro e w2 ⟨rfl, hb2⟩)))
      go_wp2_with fail
      go_roundw
      case rel =>
        have hq := HQ.out
        exact ⟨j + 1, q + 1, by omega, by omega, by go_num, by go_num, bel_nx (bel_dr hbr) hb2⟩
      case measure => simp [intOf]; omega
    · obtain rfl : j = n := by omega
      go_wp2_with fail
      go_ret
      have hq := HQ.out
      subst hq
      exact ⟨rfl, hbr⟩

end Go.Proofs.Ytdchfiiaollheaa
