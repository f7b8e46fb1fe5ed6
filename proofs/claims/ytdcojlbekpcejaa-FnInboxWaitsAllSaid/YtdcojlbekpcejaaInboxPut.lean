/- The reference's l22Put: an ascending list with one number more. -/
import Derived.Test.YtdcojlbekpcejaaInboxInsert
namespace Go.Proofs.Ytdcojlbekpcejaa
open Go.RowKit

theorem put_snoc_done {x y z : Int} : ∀ {l : List Int}, y ∈ l → x < y → putZ (l ++ [z]) x = putZ l x ++ [z]
  | u :: r, h, hy => by
    simp only [List.cons_append]
    unfold putZ
    by_cases hu : x < u
    · rw [if_pos hu, if_pos hu]; simp
    · rw [if_neg hu, if_neg hu]
      rcases List.mem_cons.1 h with rfl | h
      · exact absurd hy hu
      · rw [put_snoc_done h hy]; simp
theorem put_none {x : Int} : ∀ {l : List Int}, (∀ z ∈ l, ¬ x < z) → putZ l x = l ++ [x]
  | [], _ => rfl
  | z :: r, h => by
    unfold putZ
    rw [if_neg (h z (by simp)), put_none (fun u hu => h u (by simp [hu]))]
    simp
/-- Ahead of place k: either no number is greater yet, or the new one is in. -/
def putAt (l : List Int) (x : Int) (k : Nat) (d : Bool) (out : List Int) : Prop :=
  (d = false → out = l.take k ∧ ∀ z ∈ l.take k, ¬ x < z) ∧ (d = true → out = putZ (l.take k) x ∧ ∃ y ∈ l.take k, x < y)
theorem putAt_zero (l : List Int) (x : Int) : putAt l x 0 false [] := ⟨fun _ => ⟨by simp, by simp⟩, fun h => by cases h⟩
theorem take_snoc {l : List Int} {k : Nat} {z : Int} (h : l[k]? = some z) : l.take (k + 1) = l.take k ++ [z] := by
  rw [List.take_add_one, h]; rfl
theorem putAt_old {l out : List Int} {x z : Int} {k : Nat} (h : putAt l x k true out) (hz : l[k]? = some z) : putAt l x (k + 1) true (out ++ [z]) := by
  obtain ⟨h1, y, hy, hxy⟩ := h.2 rfl
  refine ⟨fun h => (by cases h), fun _ => ⟨?_, y, ?_, hxy⟩⟩
  · rw [take_snoc hz, put_snoc_done hy hxy, h1]
  · rw [take_snoc hz]; exact List.mem_append_left _ hy
theorem putAt_new {l out : List Int} {x z : Int} {k : Nat} (h : putAt l x k false out) (hz : l[k]? = some z) (hx : x < z) : putAt l x (k + 1) true (out ++ [x] ++ [z]) := by
  obtain ⟨h1, h2⟩ := h.1 rfl
  refine ⟨fun h => (by cases h), fun _ => ⟨?_, z, ?_, hx⟩⟩
  · rw [take_snoc hz, h1]
    have : ∀ m : List Int, (∀ u ∈ m, ¬ x < u) → putZ (m ++ [z]) x = m ++ [x] ++ [z] := by
      intro m hm
      induction m with
      | nil => simp [putZ, hx]
      | cons u m ih =>
        simp only [List.cons_append]
        unfold putZ
        rw [if_neg (hm u (by simp)), ih (fun v hv => hm v (by simp [hv]))]
    exact (this _ h2).symm
  · rw [take_snoc hz]; simp
theorem putAt_next {l out : List Int} {x z : Int} {k : Nat} (h : putAt l x k false out) (hz : l[k]? = some z) (hx : ¬ x < z) : putAt l x (k + 1) false (out ++ [z]) := by
  obtain ⟨h1, h2⟩ := h.1 rfl
  refine ⟨fun _ => ⟨by rw [take_snoc hz, h1], fun u hu => ?_⟩, fun h => (by cases h)⟩
  rw [take_snoc hz, List.mem_append] at hu
  rcases hu with hu | hu
  · exact h2 u hu
  · obtain rfl : u = z := by simpa using hu
    exact hx
theorem putAt_end1 {l out : List Int} {x : Int} {k : Nat} (h : putAt l x k true out) (hk : l.length ≤ k) : out = putZ l x := by
  rw [(h.2 rfl).1, List.take_of_length_le hk]
theorem putAt_end0 {l out : List Int} {x : Int} {k : Nat} (h : putAt l x k false out) (hk : l.length ≤ k) : out ++ [x] = putZ l x := by
  obtain ⟨h1, h2⟩ := h.1 rfl
  rw [List.take_of_length_le hk] at h1 h2
  rw [h1, put_none h2]

theorem one_I (a : Int) (u : Value) (hu : u ∈ encI a) : u.oneCell' = true := by simp [encI] at hu; subst hu; rfl

set_option maxRecDepth 20000 in
set_option maxHeartbeats 2000000 in
theorem l22Put_c (A : Option Addr) (n c : Nat) (l : List Int) (x : Int) (w : World) (h : SlI w A n c l) (hn : n ≤ 1000000) : Calls Try.prog 48 #[.slice A n c, .int .i64 x] w fun e w' =>
    ∃ A' m c', e = .returned (.slice A' m c') ∧ w'.ownsRow w.heap.size 3 1 (.slice A' m c') m ((putZ l x).map (Value.int .i64)) ∧ Below w.heap.size w w' := by
  obtain ⟨i0, hi0, hz0, hz1, hz2⟩ := info_parts int_info
  have HL := Lib.hid h.len
  have hcap := h.cap
  have hmax := h.max
  have hnil : (w.alloc (.cells #[] 3)).ownsRow w.heap.size 3 1 (.slice (some ⟨w.heap.size, 0, none⟩) 0 0) 0 [] :=
    World.ownsRow_lit (size := 1) (e := 3) w #[] 0 (Nat.le_refl _) (by unfold maxLen; omega) rfl
  go_enter Try.func48, Try.ntmps48
  go_wp2_with fail
  go_loopw [5, 6, 7] (fun s d i wr => ∃ (k m c' : Nat) (A' : Option Addr) (b : Bool) (out : List Int), k ≤ n ∧ i = .int .i64 k ∧ d = .bool b ∧ s = .slice A' m c' ∧ m ≤ k + (if b = true then 1 else 0) ∧ wr.ownsRow w.heap.size 3 1 (.slice A' m c') m (out.map (Value.int .i64)) ∧ Hid (putAt l x k b out) ∧ Below w.heap.size w wr) (fun _ _ i _ => n - (intOf i).toNat)
  case atStart => exact ⟨0, 0, 0, _, false, [], Nat.zero_le _, rfl, rfl, rfl, by simp, hnil, Lib.hid (putAt_zero l x), by (repeat' first | exact bel_refl _ | refine bel_al ?_ _ | refine bel_dr ?_ | refine bel_drN ?_ _ | refine bel_nx ?_ (by assumption) | (refine bel_set ?_ (by first | omega | (simp; omega)) _))⟩
  case round =>
    obtain ⟨k, m, c', A', b, out, hk, rfl, rfl, rfl, hm, hown, HP, hbr⟩ := hrel
    have hsz := hbr.size
    by_cases hlt : k < n
    · obtain ⟨bl, off, z, rfl, hx, hcx⟩ := SlI.get (h.bel hbr) hlt
      have HX := Lib.hid hx
      clear hx
      have k0 : (0 : Int) ≤ (k : Int) := by omega
      have k1 : (k : Int) < (n : Int) := by omega
      cases b
      · replace hm : m ≤ k := by simpa using hm
        by_cases hxz : x < z
        · have d1 : decide (x < z) = true := decide_eq_true hxz
          go_wp2_with (first
            | (at_builtin; refine wpList_append_sl (enc := encI) rfl _ _ 23 rfl w.heap.size 3 i0 (.int .i64 0) 1 8 Try.underlying23 hi0 hz0 hz1 hz2 rfl (by decide) (.slice A' m c') m (out.map (Value.int .i64)) rfl (hown.alloc _) (some ⟨wr.heap.size, 0, none⟩) 1 1 [x] rfl (fun _ => rfl) (Sl.one (Blk.new _ _ _)) one_I (by unfold maxLen; omega) (by omega) (by simp; omega) ?_; intro v5 w5 ho5 hg5 hl5; obtain ⟨A5, c5, rfl⟩ := own_form ho5; rw [flat_encI, ← List.map_append] at ho5; have hb5 := below_app hbr hsz hown hg5; have hz5 := hb5.size; obtain ⟨bl2, off2, z2, hA2, hx2, hcx5⟩ := SlI.get (h.bel hb5) hlt; obtain ⟨rfl, rfl⟩ : bl = bl2 ∧ off = off2 := (by simpa using hA2); obtain rfl : z = z2 := (by have := HX.out.symm.trans hx2; simpa using this); clear hx2 hA2 hcx)
            | (at_builtin; refine wpList_append_sl (enc := encI) rfl _ _ 23 rfl w.heap.size 3 i0 (.int .i64 0) 1 8 Try.underlying23 hi0 hz0 hz1 hz2 rfl (by decide) (.slice A5 (m + 1) c5) (m + 1) ((out ++ [x]).map (Value.int .i64)) rfl (ho5.alloc _) (some ⟨w5.heap.size, 0, none⟩) 1 1 [z] rfl (fun _ => rfl) (Sl.one (Blk.new _ _ _)) one_I (by unfold maxLen; omega) (by omega) (by simp; omega) ?_; intro v6 w6 ho6 hg6 hl6; obtain ⟨A6, c6, rfl⟩ := own_form ho6; rw [flat_encI, ← List.map_append] at ho6; have hb6 := below_app hb5 hz5 ho5 hg6))
          go_roundw
          case rel => exact ⟨k + 1, m + 1 + 1, c6, A6, true, out ++ [x] ++ [z], by omega, by go_num, rfl, rfl, by simp; omega, ho6, Lib.hid (putAt_new HP.out HX.out hxz), hb6⟩
          case measure => simp [intOf]; omega
        · have d1 : decide (x < z) = false := decide_eq_false hxz
          go_wp2_with (at_builtin; refine wpList_append_sl (enc := encI) rfl _ _ 23 rfl w.heap.size 3 i0 (.int .i64 0) 1 8 Try.underlying23 hi0 hz0 hz1 hz2 rfl (by decide) (.slice A' m c') m (out.map (Value.int .i64)) rfl (hown.alloc _) (some ⟨wr.heap.size, 0, none⟩) 1 1 [z] rfl (fun _ => rfl) (Sl.one (Blk.new _ _ _)) one_I (by unfold maxLen; omega) (by omega) (by simp; omega) ?_; intro v5 w5 ho5 hg5 hl5; obtain ⟨A5, c5, rfl⟩ := own_form ho5; rw [flat_encI, ← List.map_append] at ho5; have hb5 := below_app hbr hsz hown hg5)
          go_roundw
          case rel => exact ⟨k + 1, m + 1, c5, A5, false, out ++ [z], by omega, by go_num, rfl, rfl, by simp; omega, ho5, Lib.hid (putAt_next HP.out HX.out hxz), hb5⟩
          case measure => simp [intOf]; omega
      · replace hm : m ≤ k + 1 := (by simpa using hm)
        go_wp2_with (at_builtin; refine wpList_append_sl (enc := encI) rfl _ _ 23 rfl w.heap.size 3 i0 (.int .i64 0) 1 8 Try.underlying23 hi0 hz0 hz1 hz2 rfl (by decide) (.slice A' m c') m (out.map (Value.int .i64)) rfl (hown.alloc _) (some ⟨wr.heap.size, 0, none⟩) 1 1 [z] rfl (fun _ => rfl) (Sl.one (Blk.new _ _ _)) one_I (by unfold maxLen; omega) (by omega) (by simp; omega) ?_; intro v5 w5 ho5 hg5 hl5; obtain ⟨A5, c5, rfl⟩ := own_form ho5; rw [flat_encI, ← List.map_append] at ho5; have hb5 := below_app hbr hsz hown hg5)
        go_roundw
        case rel => exact ⟨k + 1, m + 1, c5, A5, true, out ++ [z], by omega, by go_num, rfl, rfl, by simp; omega, ho5, Lib.hid (putAt_old HP.out HX.out), hb5⟩
        case measure => simp [intOf]; omega
    · obtain rfl : k = n := by omega
      have hm1 : m ≤ k + 1 := by split at hm <;> omega
      cases b
      · have HE := Lib.hid (putAt_end0 HP.out (by rw [HL.out]; exact Nat.le_refl _))
        go_wp2_with (at_builtin; refine wpList_append_sl (enc := encI) rfl _ _ 23 rfl w.heap.size 3 i0 (.int .i64 0) 1 8 Try.underlying23 hi0 hz0 hz1 hz2 rfl (by decide) (.slice A' m c') m (out.map (Value.int .i64)) rfl (hown.alloc _) (some ⟨wr.heap.size, 0, none⟩) 1 1 [x] rfl (fun _ => rfl) (Sl.one (Blk.new _ _ _)) one_I (by unfold maxLen; omega) (by omega) (by simp; omega) ?_; intro v5 w5 ho5 hg5 hl5; obtain ⟨A5, c5, rfl⟩ := own_form ho5; rw [flat_encI, ← List.map_append] at ho5; have hb5 := below_app hbr hsz hown hg5)
        go_ret
        exact ⟨A5, m + 1, c5, rfl, by rw [← HE.out]; exact ho5, hb5⟩
      · have HE := Lib.hid (putAt_end1 HP.out (by rw [HL.out]; exact Nat.le_refl _))
        go_wp2_with fail
        go_ret
        exact ⟨A', m, c', rfl, by rw [← HE.out]; exact hown, hbr⟩

end Go.Proofs.Ytdcojlbekpcejaa
