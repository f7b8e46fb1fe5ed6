/- Flows and runs of the laws: measured, copied, compared with themselves. -/
import Derived.Test.YtdchfiiaollheaaRunValid
import Derived.Test.YtdchfiiaollheaaMarksG
import Derived.Deep.RegionHeld3
import Derived.StillTailTactics
namespace Go.Proofs.Ytdchfiiaollheaa
open Go.RowKit

theorem eqStringS_same (A B : Option Addr) (n c n' c' : Nat) (l : List ByteArray) (w : World) (h : SlS w A n c l) (h' : SlS w B n' c' l) : Calls Try.prog 44 #[.slice A n c, .slice B n' c'] w fun e w' => e = .returned (.bool true) ∧ Below w.heap.size w w' :=
  (eqStringS_c A B n c n' c' l l w h h').mono fun _ _ ⟨h1, q, h2⟩ => ⟨by rw [h1]; exact ret_bool (decide_eq_true rfl), by rw [h2]; exact bel_drN (bel_refl _) q⟩

set_option maxHeartbeats 400000 in
theorem szStringS_c (A : Option Addr) (n c : Nat) (l : List ByteArray) (w : World) (left : Int) (h : SlS w A n c l) (hz : SzL l) (h0 : 0 ≤ left) (h1 : left ≤ 1048576) : Calls Try.prog 70 #[.slice A n c, .int .i64 left] w fun e w' =>
    ∃ r : Int, e = .returned (.int .i64 r) ∧ (r < 0 ∨ (0 ≤ r ∧ r ≤ left ∧ (n : Int) ≤ left)) ∧ w = w' := by
  have hcap := h.cap
  have hmax := h.max
  have HZ := Lib.hid hz
  clear hz
  by_cases hn : left < n
  · go_enter Try.func70, Try.ntmps70
    go_wp2_with fail
    go_ret
    exact ⟨_, rfl, .inl (by omega), rfl⟩
  · go_enter Try.func70, Try.ntmps70
    go_wp2_with fail
    go_loop [5, 1] (fun i m => ∃ (k : Nat) (r : Int), k ≤ n ∧ i = .int .i64 (k : Int) ∧ m = .int .i64 r ∧ 0 ≤ r ∧ r ≤ left) (fun i _ => n - (intOf i).toNat)
    case atStart => exact ⟨0, left - n, Nat.zero_le _, rfl, rfl, by omega, by omega⟩
    case round =>
      obtain ⟨k, r, hk, rfl, rfl, r0, r1⟩ := hrel
      by_cases hlt : k < n
      · obtain ⟨b, off, s, rfl, hx, hc0⟩ := SlS.get h hlt
        have hsz := szL_at HZ.out hx
        clear hx
        by_cases hs : r < s.size
        · go_wp2_with fail
          go_ret
          exact ⟨_, rfl, .inl (by omega), rfl⟩
        · have r2 : 0 ≤ r - s.size := by omega
          go_wp2_with fail
          go_round
          case rel => exact ⟨k + 1, r - s.size, by omega, by go_num, rfl, by omega, by omega⟩
          case measure => simp [intOf]; omega
      · go_wp2_with fail
        go_ret
        have hfin : r < 0 ∨ (0 ≤ r ∧ r ≤ left ∧ (n : Int) ≤ left) := Or.inr (And.intro r0 (And.intro r1 (by omega)))
        first | exact ⟨r, rfl, hfin, rfl⟩ | exact ⟨r, rfl, Or.inr ⟨r0, r1⟩, rfl⟩

theorem szStep_c (nm : ByteArray) (B : Option Addr) (m d : Nat) (u : Bool) (af : List ByteArray) (left : Int) (w : World) (haf : SlS w B m d af) (hs : nm.size ≤ 9223372036854775807) (hz : SzL af) (h0 : 0 ≤ left) (h1 : left ≤ 1048576) : Calls Try.prog 88 #[.agg #[.string nm, .slice B m d, .bool u], .int .i64 left] w fun e w' =>
    ∃ r : Int, e = .returned (.int .i64 r) ∧ (r < 0 ∨ (0 ≤ r ∧ r ≤ left ∧ (m : Int) ≤ left)) ∧ Below w.heap.size w w' := by
  have hW := bel_al (bel_refl w) (.cells #[.string nm, .slice B m d, .bool u] 98)
  by_cases hn : left < nm.size
  · go_enter Try.func88, Try.ntmps88
    go_wp2_with fail
    go_ret
    exact ⟨_, rfl, .inl (by omega), hW⟩
  · have r2 : 0 ≤ left - nm.size := by omega
    go_enter Try.func88, Try.ntmps88
    go_wp2_with fail
    refine (szStringS_c B m d af _ (left - nm.size) (haf.al _) hz r2 (by omega)).mono ?_
    rintro e w1 ⟨r, rfl, hr, rfl⟩
    rcases hr with hr | ⟨hr0, hr1, hr3⟩
    · go_wp2_with fail
      go_ret
      exact ⟨_, rfl, .inl (by omega), hW⟩
    · go_wp2_with fail
      go_ret
      exact ⟨_, rfl, .inr ⟨hr0, by omega, by omega⟩, hW⟩

/-- All lists of a flow are short. -/
def ShortP (l : List Stp) (n : Nat) : Prop := ∀ p ∈ l, p.after.length ≤ n

set_option maxHeartbeats 1000000 in
theorem szStepS_c (A : Option Addr) (n c : Nat) (l : List Stp) (w : World) (left : Int) (h : SlP w A n c l) (hz : SzP l) (h0 : 0 ≤ left) (h1 : left ≤ 1048576) : Calls Try.prog 60 #[.slice A n c, .int .i64 left] w fun e w' =>
    ∃ r : Int, e = .returned (.int .i64 r) ∧ (r < 0 ∨ (0 ≤ r ∧ r ≤ left ∧ (n : Int) ≤ left ∧ ShortP l 1048576)) ∧ Below w.heap.size w w' := by
  have HL := Lib.hid h.len
  have hcap := h.cap
  have hmax := h.max
  have HZ := Lib.hid hz
  clear hz
  by_cases hn : left < n
  · go_enter Try.func60, Try.ntmps60
    go_wp2_with fail
    go_ret
    exact ⟨_, rfl, .inl (by omega), bel_refl _⟩
  · go_enter Try.func60, Try.ntmps60
    go_wp2_with fail
    go_loopw [5, 1] (fun i m wr => ∃ (k : Nat) (r : Int), k ≤ n ∧ i = .int .i64 k ∧ m = .int .i64 r ∧ 0 ≤ r ∧ r ≤ left ∧ Hid (∀ j (p : Stp), j < k → l[j]? = some p → p.after.length ≤ 1048576) ∧ Below w.heap.size w wr) (fun i _ _ => n - (intOf i).toNat)
    case atStart => exact ⟨0, left - n, Nat.zero_le _, rfl, rfl, by omega, by omega, Lib.hid (fun j p hj => by omega), bel_refl _⟩
    case round =>
      obtain ⟨k, r, hk, rfl, rfl, r0, r1, HS, hbr⟩ := hrel
      by_cases hlt : k < n
      · obtain ⟨b, off, t, B, m, d, af, u, rfl, hx, hc0, hc1, hc2, haf⟩ := SlP.get (h.bel hbr) hlt
        obtain ⟨hts, hta⟩ := szP_at HZ.out hx
        have HX := Lib.hid hx
        have HM := Lib.hid haf.len
        clear hx
        go_wp2_with fail
        refine (szStep_c t B m d u af r _ haf hts hta r0 (by omega)).mono ?_
        rintro e w2 ⟨q, rfl, hq, hb2⟩
        have hbr2 := bel_nx hbr hb2
        rcases hq with hq | ⟨hq0, hq1, hq3⟩
        · go_wp2_with fail
          go_ret
          exact ⟨_, rfl, .inl (by omega), hbr2⟩
        · have HN : Hid (∀ j (p : Stp), j < k + 1 → l[j]? = some p → p.after.length ≤ 1048576) := Lib.hid (allP_next (P := fun p => p.after.length ≤ 1048576) HX.out (by show af.length ≤ 1048576; rw [HM.out]; omega) HS.out)
          go_wp2_with fail
          go_roundw
          case rel => exact ⟨k + 1, q, by omega, by go_num, rfl, by omega, by omega, HN, hbr2⟩
          case measure => simp [intOf]; omega
      · go_wp2_with fail
        go_ret
        refine ⟨r, rfl, .inr ⟨r0, r1, by omega, fun p hp => ?_⟩, hbr⟩
        obtain ⟨j, hj, rfl⟩ := List.mem_iff_getElem.1 hp
        exact HS.out j _ (by rw [HL.out] at hj; omega) (List.getElem?_eq_getElem hj)

theorem szFlow_c (v : Int) (A : Option Addr) (n c : Nat) (l : List Stp) (w : World) (left : Int) (h : SlP w A n c l) (hz : SzP l) (h0 : 0 ≤ left) (h1 : left ≤ 1048576) : Calls Try.prog 19 #[.agg #[.int .i64 v, .slice A n c], .int .i64 left] w fun e w' =>
    ∃ r : Int, e = .returned (.int .i64 r) ∧ (r < 0 ∨ (0 ≤ r ∧ r ≤ left ∧ (n : Int) ≤ left ∧ ShortP l 1048576)) ∧ Below w.heap.size w w' := by
  have hW := bel_al (bel_refl w) (.cells #[.int .i64 v, .slice A n c] 34)
  go_enter Try.func19, Try.ntmps19
  go_wp2_with fail
  refine (szStepS_c A n c l _ left (h.al _) hz h0 h1).mono ?_
  rintro e w1 ⟨r, rfl, hr, hb1⟩
  have hW := bel_nx hW hb1
  rcases hr with hr | ⟨hr0, hr1, hr2, hr3⟩
  · go_wp2_with fail
    go_ret
    exact ⟨_, rfl, .inl (by omega), hW⟩
  · have HR := Lib.hid hr3
    clear hr3
    go_wp2_with fail
    go_ret
    exact ⟨_, rfl, .inr ⟨hr0, hr1, hr2, HR.out⟩, hW⟩
theorem szRun_c (st : Int) (A : Option Addr) (n c : Nat) (l : List ByteArray) (w : World) (left : Int) (h : SlS w A n c l) (hz : SzL l) (h0 : 0 ≤ left) (h1 : left ≤ 1048576) : Calls Try.prog 27 #[.agg #[.int .i64 st, .slice A n c], .int .i64 left] w fun e w' =>
    ∃ r : Int, e = .returned (.int .i64 r) ∧ (r < 0 ∨ (0 ≤ r ∧ r ≤ left ∧ (n : Int) ≤ left)) ∧ Below w.heap.size w w' := by
  have hW := bel_al (bel_refl w) (.cells #[.int .i64 st, .slice A n c] 46)
  go_enter Try.func27, Try.ntmps27
  go_wp2_with fail
  refine (szStringS_c A n c l _ left (h.al _) hz h0 h1).mono ?_
  rintro e w1 ⟨r, rfl, hr, rfl⟩
  rcases hr with hr | ⟨hr0, hr1, hr2⟩
  · go_wp2_with fail
    go_ret
    exact ⟨_, rfl, .inl (by omega), hW⟩
  · go_wp2_with fail
    go_ret
    exact ⟨_, rfl, .inr ⟨hr0, hr1, hr2⟩, hW⟩

/-- n elements as they are made. -/
theorem made_flat {α : Type} {enc : α → List Value} {k : Nat} (hk : ∀ a, (enc a).length = k) (h0 : 0 < k) (d : α) (n : Nat) : (madeCells (enc d).toArray (n * k)).toList = (List.replicate n d).flatMap enc := by
  apply List.ext_getElem?
  intro j
  by_cases hj : j < n * k
  · have hq : j / k < n := Nat.div_lt_of_lt_mul (by rw [Nat.mul_comm]; exact hj)
    have hr : j % k < k := Nat.mod_lt _ h0
    have e : j / k * k + j % k = j := by rw [Nat.mul_comm]; exact Nat.div_add_mod j k
    have hg := flat_get hk (List.replicate n d) (j / k) (j % k) d (by rw [List.getElem?_replicate, if_pos hq]) hr
    rw [e] at hg
    rw [hg]
    have hl : j % k < (enc d).length := by rw [hk]; exact hr
    simp [madeCells, hj, hk, List.getElem?_eq_getElem hl]
  · rw [List.getElem?_eq_none (by rw [Array.length_toList, size_madeCells]; omega), List.getElem?_eq_none (by rw [flat_len hk, List.length_replicate]; omega)]
def cpyD {α : Type} (d : α) (l : List α) (k : Nat) : List α := l.take k ++ List.replicate (l.length - k) d
theorem cpyD_zero {α : Type} (d : α) (l : List α) : cpyD d l 0 = List.replicate l.length d := by simp [cpyD]
theorem cpyD_all {α : Type} (d : α) (l : List α) : cpyD d l l.length = l := by simp [cpyD]
theorem cpyD_step {α : Type} (d : α) (l : List α) (k : Nat) (z : α) (h : l[k]? = some z) : (cpyD d l k).set k z = cpyD d l (k + 1) := by
  have hk : k < l.length := (List.getElem?_eq_some_iff.1 h).1
  obtain ⟨_, rfl⟩ := List.getElem?_eq_some_iff.1 h
  unfold cpyD
  obtain ⟨m, hm⟩ : ∃ m, l.length - k = m + 1 := ⟨l.length - k - 1, by omega⟩
  rw [hm, List.replicate_succ, List.set_append_right _ _ (by simp; omega), List.length_take, Nat.min_eq_left (by omega), Nat.sub_self, List.set_cons_zero, List.take_succ_eq_append_getElem hk, show l.length - (k + 1) = m by omega, List.append_assoc]
  rfl
theorem flat_map1 (l : List ByteArray) : l.flatMap encS = l.map Value.string := flat_encS l

set_option maxHeartbeats 1000000 in
theorem toStringS_c (A : Option Addr) (n c : Nat) (l : List ByteArray) (w : World) (h : SlS w A n c l) (hn : n ≤ 1048576) : Calls Try.prog 71 #[.slice A n c] w fun e w' =>
    ∃ A' c', e = .returned (.slice A' n c') ∧ w'.ownsRow w.heap.size 9 1 (.slice A' n c') n (l.map Value.string) ∧ Below w.heap.size w w' := by
  obtain ⟨i0, hi0, hz0, hz1, hz2⟩ := info_parts str_info
  have hlen := h.len
  have hmax := h.max
  have hcap := h.cap
  have HL := Lib.hid hlen
  clear hlen
  go_enter Try.func71, Try.ntmps71
  go_wp2_with (at_make; refine wpList_make_full _ rfl _ _ 28 rfl w.heap.size 9 i0 (.string ByteArray.empty) 1 Try.underlying28 hi0 hz0 hz1 .i64 .i64 n n n rfl rfl rfl rfl (by rw [hz2]; omega) (by unfold maxLen; omega) (Nat.le_refl _) ?_; intro w1 hown hgrow)
  go_loopw [4] (fun i wr => ∃ k : Nat, k ≤ n ∧ i = .int .i64 k ∧ wr.ownsRow w.heap.size 9 1 (.slice (some ⟨w.heap.size, 0, none⟩) n n) n ((cpyD ByteArray.empty l k).map Value.string) ∧ Below w.heap.size w wr) (fun i _ => n - (intOf i).toNat)
  case atStart =>
    refine ⟨0, Nat.zero_le _, rfl, ?_, (Below.refl _ _).grown hgrow (Nat.le_refl _) (fun _ h => by cases h)⟩
    rw [cpyD_zero, HL.out, ← flat_map1, ← made_flat (enc := encS) (k := 1) (fun _ => rfl) (by omega)]
    have e : (encS ByteArray.empty).toArray = (Value.string ByteArray.empty).cells := rfl
    rw [e]
    simpa using hown
  case round =>
    obtain ⟨k, hk, rfl, hown, hbr⟩ := hrel
    by_cases hlt : k < n
    · obtain ⟨b, off, s, rfl, hz, hc0⟩ := SlS.get (h.bel hbr) hlt
      have HZ := Lib.hid hz
      clear hz
      obtain ⟨⟨v0, hco0⟩, hcf0⟩ := own_at hown (j := k) (by omega)
      go_wp2_with fail
      go_roundw
      case rel =>
        refine ⟨k + 1, by omega, by go_num, ?_, hbr.setCell (Nat.le_refl _) _⟩
        have h1 := (hown.stored k (.string s)).1
        rw [flat_setS, cpyD_step _ _ _ _ HZ.out] at h1
        exact h1
      case measure => simp [intOf]; omega
    · go_wp2_with fail
      go_ret
      obtain rfl : k = n := by omega
      refine ⟨_, _, rfl, ?_, hbr⟩
      rw [← HL.out, cpyD_all] at hown
      rw [HL.out] at hown
      exact hown

end Go.Proofs.Ytdchfiiaollheaa
