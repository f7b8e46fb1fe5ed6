/- Slices of timers: copied, measured, compared in a loop. -/
import Derived.Test.YtpkakpldhlldeaaTims
import Derived.Deep.RegionHeld3
namespace Go.Proofs.Ytpkakpldhlldeaa
open Go.RowKit

abbrev r2z : R2 := (0, ByteArray.empty)

/-- n records as they are made. -/
theorem made_flat {α : Type} {enc : α → List Value} {k : Nat} (hk : ∀ a, (enc a).length = k) (h0 : 0 < k) (d : α) (n : Nat) : (madeCells (enc d).toArray (n * k)).toList = (List.replicate n d).flatMap enc := by
  apply List.ext_getElem?
  intro j
  by_cases hj : j < n * k
  · have hq : j / k < n := Nat.div_lt_of_lt_mul (by rw [Nat.mul_comm]; exact hj)
    have hr : j % k < k := Nat.mod_lt _ h0
    have e : j / k * k + j % k = j := by rw [Nat.mul_comm]; exact Nat.div_add_mod j k
    have hg := flat_get hk (List.replicate n d) (j / k) (j % k) d (by rw [List.getElem?_replicate, if_pos hq]) hr
    rw [e] at hg
    rw [hg]
    have hl : j % k < (enc d).length := by rw [hk]; exact hr
    simp [madeCells, hj, hk, List.getElem?_eq_getElem hl]
  · rw [List.getElem?_eq_none (by rw [Array.length_toList, size_madeCells]; omega), List.getElem?_eq_none (by rw [flat_len hk, List.length_replicate]; omega)]

theorem made_tim (n : Nat) : (madeCells (Value.agg #[.int .i64 0, .string ByteArray.empty]).cells (n * 2)).toList = (List.replicate n r2z).flatMap encT :=
  made_flat (enc := encT) (fun _ => rfl) (by omega) r2z n

set_option maxHeartbeats 400000 in
theorem toTimerS_c (A : Option Addr) (n c : Nat) (l : List R2) (w : World) (h : SlT w A n c l) (hn : n ≤ 1048576) : Calls Try.prog 19 #[.slice A n c] w fun e w' =>
    ∃ A' c', e = .returned (.slice A' n c') ∧ w'.ownsRow w.heap.size 25 2 (.slice A' n c') n (l.flatMap encT) ∧ Below w.heap.size w w' := by
  obtain ⟨i0, hi0, hz0, hz1, hz2⟩ := info_parts tim_info
  have hlen := h.len
  have hmax := h.max
  have hcap := h.cap
  have HL := Lib.hid hlen
  clear hlen
  go_enter Try.func19, Try.ntmps19
  go_wp2_with (at_make; refine wpList_make_full _ rfl _ _ 23 rfl w.heap.size 25 i0 (.agg #[.int .i64 0, .string ByteArray.empty]) 2 Try.underlying23 hi0 hz0 hz1 .i64 .i64 n n n rfl rfl rfl rfl (by rw [hz2]; omega) (by unfold maxLen; omega) (Nat.le_refl _) ?_; intro w1 hown hgrow)
  go_loopw [4] (fun i wr => ∃ k : Nat, k ≤ n ∧ i = .int .i64 k ∧ wr.ownsRow w.heap.size 25 2 (.slice (some ⟨w.heap.size, 0, none⟩) n n) n ((cpyD r2z l k).flatMap encT) ∧ Below w.heap.size w wr) (fun i _ => n - (intOf i).toNat)
  case atStart =>
    refine ⟨0, Nat.zero_le _, rfl, ?_, (Below.refl _ _).grown hgrow (Nat.le_refl _) (fun _ h => by cases h)⟩
    rw [cpyD_zero, HL.out, ← made_tim]
    exact hown
  case round =>
    obtain ⟨k, hk, rfl, hown, hbr⟩ := hrel
    by_cases hlt : k < n
    · obtain ⟨b, off, x, s, rfl, hz, hc0, hc1⟩ := SlT.get (h.bel hbr) hlt
      have HZ := Lib.hid hz
      clear hz
      go_wp2_with fail
      refine (toTimer_c x s wr).mono ?_
      rintro e w2 ⟨rfl, hb2⟩
      have hown2 := hown.kept (w' := w2) (row := none) ⟨hb2.os, hb2.tape, hb2.output, hb2.size, fun j hj _ => hb2.block j hj⟩ (.inr (by simp [Value.ownBlock]))
      have hbr2 := hbr.trans (hb2.mono hbr.size)
      obtain ⟨⟨v0, hco0⟩, hcf0⟩ := own_at hown2 (j := k * 2) (by omega)
      obtain ⟨⟨v1, hco1⟩, hcf1⟩ := own_at hown2 (j := k * 2 + 1) (by omega)
      go_wp2_with fail
      go_roundw
      case rel =>
        refine ⟨k + 1, by omega, by go_num, ?_, (hbr2.setCell (Nat.le_refl _) _).setCell (Nat.le_refl _) _⟩
        have h1 := (hown2.stored (k * 2) (.int .i64 x)).1
        have h2 := (h1.stored (k * 2 + 1) (.string s)).1
        rw [flat_set2 (enc := encT) (f := fun r => .int .i64 r.1) (g := fun r => .string r.2) (fun _ => rfl) (x, s), cpyD_step _ _ _ _ HZ.out] at h2
        exact h2
      case measure => simp [intOf]; omega
    · go_wp2_with fail
      go_ret
      obtain rfl : k = n := by omega
      refine ⟨_, _, rfl, ?_, hbr⟩
      rw [← HL.out, cpyD_all] at hown
      rw [HL.out] at hown
      exact hown

/-- A timer is written over. -/
theorem own_set2 {w : World} {B : Nat} {e : TypeId} {g n c : Nat} {m : List R2} (h : w.ownsRow B e 2 (.slice (some ⟨g, 0, none⟩) n c) n (m.flatMap encT)) (p : Nat) (x : Int) (s : ByteArray) :
    ((w.setCell ⟨g, p * 2, none⟩ (.int .i64 x)).setCell ⟨g, p * 2 + 1, none⟩ (.string s)).ownsRow B e 2 (.slice (some ⟨g, 0, none⟩) n c) n ((m.set p (x, s)).flatMap encT) := by
  have h1 := (h.stored (p * 2) (.int .i64 x)).1
  have h2 := (h1.stored (p * 2 + 1) (.string s)).1
  rw [flat_set2 (enc := encT) (f := fun r => .int .i64 r.1) (g := fun r => .string r.2) (fun _ => rfl) (x, s) m p] at h2
  exact h2
theorem own_dr {w : World} {B : Nat} {e : TypeId} {k n : Nat} {v : Value} {xs : List Value} (h : w.ownsRow B e k v n xs) : w.drew.ownsRow B e k v n xs := h

/-- What is left when a list has been measured. -/
def szGo : List R2 → Int → Int
  | [], left => left
  | r :: l, left => if left < r.2.size then -1 else szGo l (left - r.2.size)

set_option maxHeartbeats 400000 in
theorem szTimerS_c (A : Option Addr) (n c : Nat) (l : List R2) (w : World) (left : Int) (h : SlT w A n c l) (hz : SzT l) (h0 : 0 ≤ left) (h1 : left ≤ 1048576) : Calls Try.prog 17 #[.slice A n c, .int .i64 left] w fun e w' =>
    ∃ r : Int, e = .returned (.int .i64 r) ∧ (r < 0 ∨ (0 ≤ r ∧ r ≤ left ∧ (n : Int) ≤ left)) ∧ Below w.heap.size w w' := by
  have hcap := h.cap
  have hmax := h.max
  have HZ := Lib.hid hz
  clear hz
  by_cases hn : left < n
  · go_enter Try.func17, Try.ntmps17
    go_wp2_with fail
    go_ret
    exact ⟨_, rfl, .inl (by omega), Below.refl _ _⟩
  · go_enter Try.func17, Try.ntmps17
    go_wp2_with fail
    go_loopw [5, 1] (fun i m wr => ∃ (k : Nat) (r : Int), k ≤ n ∧ i = .int .i64 k ∧ m = .int .i64 r ∧ 0 ≤ r ∧ r ≤ left ∧ Below w.heap.size w wr) (fun i _ _ => n - (intOf i).toNat)
    case atStart => exact ⟨0, left - n, Nat.zero_le _, rfl, rfl, by omega, by omega, Below.refl _ _⟩
    case round =>
      obtain ⟨k, r, hk, rfl, rfl, r0, r1, hbr⟩ := hrel
      by_cases hlt : k < n
      · obtain ⟨b, off, x, s, rfl, hx, hc0, hc1⟩ := SlT.get (h.bel hbr) hlt
        have hsz := szT_at HZ.out hx
        clear hx
        go_wp2_with fail
        refine (szTimer_c x r s _ r0 (by omega) hsz).mono ?_
        rintro e w2 ⟨rfl, hb2⟩
        have hbr2 := hbr.trans (hb2.mono hbr.size)
        by_cases hs : r < s.size
        · rw [if_pos hs]
          go_wp2_with fail
          go_ret
          exact ⟨_, rfl, .inl (by omega), hbr2⟩
        · rw [if_neg hs]
          have r2 : 0 ≤ r - s.size := by omega
          go_wp2_with fail
          go_roundw
          case rel => exact ⟨k + 1, r - s.size, by omega, by go_num, rfl, by omega, by omega, hbr2⟩
          case measure => simp [intOf]; omega
      · go_wp2_with fail
        go_ret
        exact ⟨r, rfl, .inr ⟨r0, r1, by omega⟩, hbr⟩

theorem eqTL_next {l m : List R2} {k : Nat} {x : R2} (H : ∀ j, j < k → l[j]? = m[j]?) (hx : l[k]? = some x) (hy : m[k]? = some x) : ∀ j, j < k + 1 → l[j]? = m[j]? := by
  intro j hj
  rcases Nat.lt_or_ge j k with q | q
  · exact H j q
  · obtain rfl : j = k := by omega
    rw [hx, hy]
def eqTL (l m : List R2) : Bool := decide (l = m)
theorem eqTL_len {l m : List R2} (h : l.length ≠ m.length) : eqTL l m = false := decide_eq_false fun e => h (by rw [e])
theorem eqTL_at {l m : List R2} (k : Nat) {x y : R2} (hx : l[k]? = some x) (hy : m[k]? = some y) (h : x ≠ y) : eqTL l m = false := decide_eq_false fun e => by rw [e, hy] at hx; cases hx; exact h rfl
theorem eqTL_yes {l m : List R2} (h : l.length = m.length) (hk : ∀ j, j < l.length → l[j]? = m[j]?) : eqTL l m = true := by
  refine decide_eq_true (List.ext_getElem? fun j => ?_)
  by_cases hj : j < l.length
  · exact hk j hj
  · rw [List.getElem?_eq_none (by omega), List.getElem?_eq_none (by omega)]
theorem eqT_iff {r r' : R2} : eqT r r' = true ↔ r = r' := decide_eq_true_iff

theorem eqTimer_b (x x' : Int) (s s' : ByteArray) (b : Bool) (w : World) (hb : eqT (x, s) (x', s') = b) : Calls Try.prog 44 #[.agg #[.int .i64 x, .string s], .agg #[.int .i64 x', .string s']] w fun e w' =>
    e = .returned (.bool b) ∧ Below w.heap.size w w' := by
  rw [← hb]; exact eqTimer_c x x' s s' w

set_option maxHeartbeats 400000 in
theorem eqTimerS_c (A B : Option Addr) (n c n' c' : Nat) (l m : List R2) (w : World) (h : SlT w A n c l) (h' : SlT w B n' c' m) : Calls Try.prog 21 #[.slice A n c, .slice B n' c'] w fun e w' =>
    e = .returned (.bool (eqTL l m)) ∧ Below w.heap.size w w' := by
  have HL := Lib.hid h.len
  have HM := Lib.hid h'.len
  have hcap := h.cap
  have hmax := h.max
  have hcap' := h'.cap
  have hmax' := h'.max
  by_cases hn : n = n'
  · subst hn
    go_enter Try.func21, Try.ntmps21
    go_wp2_with fail
    go_loopw [5] (fun i wr => ∃ k : Nat, k ≤ n ∧ i = .int .i64 k ∧ Below w.heap.size w wr ∧ Hid (∀ j, j < k → l[j]? = m[j]?)) (fun i _ => n - (intOf i).toNat)
    case atStart => exact ⟨0, Nat.zero_le _, rfl, Below.refl _ _, Lib.hid (fun j h => by omega)⟩
    case round =>
      obtain ⟨k, hk, rfl, hbr, H⟩ := hrel
      by_cases hlt : k < n
      · obtain ⟨b, off, x, s, rfl, hx, hcx0, hcx1⟩ := SlT.get (h.bel hbr) hlt
        obtain ⟨b', off', x', s', rfl, hy, hcy0, hcy1⟩ := SlT.get (h'.bel hbr) hlt
        have HX := Lib.hid hx
        have HY := Lib.hid hy
        clear hx hy
        have k0 : (0 : Int) ≤ (k : Int) := by omega
        have k1 : (k : Int) < (n : Int) := by omega
        obtain ⟨q, hq⟩ : ∃ q, eqT (x, s) (x', s') = q := ⟨_, rfl⟩
        have HQ := Lib.hid hq
        clear hq
        go_wp2_with fail
        go_region_held3 (fun w' => w'.cell? ⟨b, off + k * 2, none⟩ = some (.int .i64 x) ∧ w'.cell? ⟨b, off + k * 2 + 1, none⟩ = some (.string s) ∧ w'.cell? ⟨b', off' + k * 2, none⟩ = some (.int .i64 x') ∧ w'.cell? ⟨b', off' + k * 2 + 1, none⟩ = some (.string s'))
          (first | go_keep | exact ⟨hcx0, hcx1, hcy0, hcy1⟩ | exact ⟨cell_later hb2 hcx0, cell_later hb2 hcx1, cell_later hb2 hcy0, cell_later hb2 hcy1⟩)
          ((first | (go_at_call 44; refine (eqTimer_b x x' s s' q _ HQ.out).mono ?_; rintro e w2 ⟨rfl, hb2⟩)))
        cases q
        · go_wp2_with fail
          go_ret
          exact ⟨ret_bool (eqTL_at k HX.out HY.out (fun e => by have := HQ.out; rw [e, eqT_self] at this; cases this)).symm, by (repeat' first | assumption | exact bel_refl _ | refine bel_al ?_ _ | refine bel_dr ?_ | refine bel_drN ?_ _ | refine bel_nx ?_ (by assumption) | (refine bel_set ?_ (by first | omega | (simp; omega)) _))⟩
        · go_wp2_with fail
          go_roundw
          case rel => exact ⟨k + 1, by omega, by go_num, by (repeat' first | assumption | exact bel_refl _ | refine bel_al ?_ _ | refine bel_dr ?_ | refine bel_drN ?_ _ | refine bel_nx ?_ (by assumption) | (refine bel_set ?_ (by first | omega | (simp; omega)) _)), Lib.hid (eqTL_next H.out HX.out (by rw [HY.out, eqT_iff.1 HQ.out]))⟩
          case measure => simp [intOf]; omega
      · go_wp2_with fail
        go_ret
        exact ⟨ret_bool (eqTL_yes (by rw [HL.out, HM.out]) (fun j hj => H.out j (by rw [HL.out] at hj; omega))).symm, hbr⟩
  · have hb : ((n : Int) == (n' : Int)) = false := by simp; omega
    go_enter Try.func21, Try.ntmps21
    go_wp2_with fail
    go_ret
    exact ⟨ret_bool (eqTL_len (by rw [HL.out, HM.out]; exact hn)).symm, Below.refl _ _⟩

end Go.Proofs.Ytpkakpldhlldeaa
