/- Flows measured: how much is left when all their lists have been taken off. -/
import Derived.Test.YtdchfiiaollheaaFlowTo2
namespace Go.Proofs.Ytdchfiiaollheaa
open Go.RowKit

set_option maxHeartbeats 400000 in
theorem szStringS_s (A : Option Addr) (n c : Nat) (l : List ByteArray) (w : World) (left : Int) (h : SlS w A n c l) (hz : SzL l) (h0 : 0 ≤ left) (h1 : left ≤ 1048576) : Calls Try.prog 70 #[.slice A n c, .int .i64 left] w fun e w' =>
    ∃ r : Int, e = .returned (.int .i64 r) ∧ (r < 0 ∨ (0 ≤ r ∧ r + (n : Int) ≤ left)) ∧ w = w' := by
  have hcap := h.cap
  have hmax := h.max
  have HZ := Lib.hid hz
  clear hz
  by_cases hn : left < n
  · go_enter Try.func70, Try.ntmps70
    go_wp2_with fail
    go_ret
    exact ⟨_, rfl, .inl (by omega), rfl⟩
  · go_enter Try.func70, Try.ntmps70
    go_wp2_with fail
    go_loop [5, 1] (fun i m => ∃ (k : Nat) (r : Int), k ≤ n ∧ i = .int .i64 (k : Int) ∧ m = .int .i64 r ∧ 0 ≤ r ∧ r + (n : Int) ≤ left) (fun i _ => n - (intOf i).toNat)
    case atStart => exact ⟨0, left - n, Nat.zero_le _, rfl, rfl, by omega, by omega⟩
    case round =>
      obtain ⟨k, r, hk, rfl, rfl, r0, r1⟩ := hrel
      by_cases hlt : k < n
      · obtain ⟨b, off, s, rfl, hx, hc0⟩ := SlS.get h hlt
        have hsz := szL_at HZ.out hx
        clear hx
        by_cases hs : r < s.size
        · go_wp2_with fail
          go_ret
          exact ⟨_, rfl, .inl (by omega), rfl⟩
        · have r2 : 0 ≤ r - s.size := by omega
          go_wp2_with fail
          go_round
          case rel => exact ⟨k + 1, r - s.size, by omega, by go_num, rfl, by omega, by omega⟩
          case measure => simp [intOf]; omega
      · go_wp2_with fail
        go_ret
        exact ⟨r, rfl, Or.inr (And.intro r0 r1), rfl⟩

theorem szStep_s (nm : ByteArray) (B : Option Addr) (m d : Nat) (u : Bool) (af : List ByteArray) (left : Int) (w : World) (haf : SlS w B m d af) (hs : nm.size ≤ 9223372036854775807) (hz : SzL af) (h0 : 0 ≤ left) (h1 : left ≤ 1048576) : Calls Try.prog 88 #[.agg #[.string nm, .slice B m d, .bool u], .int .i64 left] w fun e w' =>
    ∃ r : Int, e = .returned (.int .i64 r) ∧ (r < 0 ∨ (0 ≤ r ∧ r + (m : Int) ≤ left)) ∧ Below w.heap.size w w' := by
  have hW := bel_al (bel_refl w) (.cells #[.string nm, .slice B m d, .bool u] 98)
  by_cases hn : left < nm.size
  · go_enter Try.func88, Try.ntmps88
    go_wp2_with fail
    go_ret
    exact ⟨_, rfl, .inl (by omega), hW⟩
  · have r2 : 0 ≤ left - nm.size := by omega
    go_enter Try.func88, Try.ntmps88
    go_wp2_with fail
    refine (szStringS_s B m d af _ (left - nm.size) (haf.al _) hz r2 (by omega)).mono ?_
    rintro e w1 ⟨r, rfl, hr, rfl⟩
    rcases hr with hr | ⟨hr0, hr1⟩
    · go_wp2_with fail
      go_ret
      exact ⟨_, rfl, .inl (by omega), hW⟩
    · go_wp2_with fail
      go_ret
      exact ⟨_, rfl, .inr ⟨hr0, by omega⟩, hW⟩

/-- How long all lists of a flow are. -/
def sumA (l : List Stp) : Nat := (l.map (fun p => p.after.length)).sum
theorem sumA_next {l : List Stp} {k : Nat} {p : Stp} (h : l[k]? = some p) : sumA (l.take (k + 1)) = sumA (l.take k) + p.after.length := by
  unfold sumA; rw [List.take_add_one, h]; simp
theorem sumA_short {l : List Stp} {m : Nat} (h : sumA l ≤ m) : ShortP l m := fun p hp => by
  have : p.after.length ≤ sumA l := by
    clear h
    induction l with
    | nil => cases hp
    | cons x l ih =>
      have e : sumA (x :: l) = x.after.length + sumA l := by simp [sumA]
      rw [e]
      rcases List.mem_cons.1 hp with rfl | hp
      · omega
      · have := ih hp
        omega
  omega

set_option maxHeartbeats 1000000 in
theorem szStepS_s (A : Option Addr) (n c : Nat) (l : List Stp) (w : World) (left : Int) (h : SlP w A n c l) (hz : SzP l) (h0 : 0 ≤ left) (h1 : left ≤ 1048576) : Calls Try.prog 60 #[.slice A n c, .int .i64 left] w fun e w' =>
    ∃ r : Int, e = .returned (.int .i64 r) ∧ (r < 0 ∨ (0 ≤ r ∧ r + (n : Int) + (sumA l : Int) ≤ left)) ∧ Below w.heap.size w w' := by
  have HL := Lib.hid h.len
  have hcap := h.cap
  have hmax := h.max
  have HZ := Lib.hid hz
  clear hz
  by_cases hn : left < n
  · go_enter Try.func60, Try.ntmps60
    go_wp2_with fail
    go_ret
    exact ⟨_, rfl, .inl (by omega), bel_refl _⟩
  · go_enter Try.func60, Try.ntmps60
    go_wp2_with fail
    go_loopw [5, 1] (fun i m wr => ∃ (k : Nat) (r : Int), k ≤ n ∧ i = .int .i64 k ∧ m = .int .i64 r ∧ 0 ≤ r ∧ Hid (r + (n : Int) + (sumA (l.take k) : Int) ≤ left) ∧ Below w.heap.size w wr) (fun i _ _ => n - (intOf i).toNat)
    case atStart => exact ⟨0, left - n, Nat.zero_le _, rfl, rfl, by omega, Lib.hid (by simp [sumA]), bel_refl _⟩
    case round =>
      obtain ⟨k, r, hk, rfl, rfl, r0, HS, hbr⟩ := hrel
      by_cases hlt : k < n
      · obtain ⟨b, off, t, B, m, d, af, u, rfl, hx, hc0, hc1, hc2, haf⟩ := SlP.get (h.bel hbr) hlt
        obtain ⟨hts, hta⟩ := szP_at HZ.out hx
        have HX := Lib.hid hx
        have HM := Lib.hid haf.len
        clear hx
        have r1 : r ≤ 1048576 := by have := HS.out; omega
        go_wp2_with fail
        refine (szStep_s t B m d u af r _ haf hts hta r0 (by omega)).mono ?_
        rintro e w2 ⟨q, rfl, hq, hb2⟩
        have hbr2 := bel_nx hbr hb2
        rcases hq with hq | ⟨hq0, hq1⟩
        · go_wp2_with fail
          go_ret
          exact ⟨_, rfl, .inl (by omega), hbr2⟩
        · have HN : Hid (q + (n : Int) + (sumA (l.take (k + 1)) : Int) ≤ left) := Lib.hid (by
            rw [sumA_next HX.out]
            have h1 := HS.out
            have h2 := HM.out
            simp only
            omega)
          go_wp2_with fail
          go_roundw
          case rel => exact ⟨k + 1, q, by omega, by go_num, rfl, by omega, HN, hbr2⟩
          case measure => simp [intOf]; omega
      · go_wp2_with fail
        go_ret
        have hfin := HS.out
        rw [List.take_of_length_le (by rw [HL.out]; omega)] at hfin
        exact ⟨r, rfl, .inr ⟨r0, hfin⟩, hbr⟩

theorem szFlow_s (v : Int) (A : Option Addr) (n c : Nat) (l : List Stp) (w : World) (left : Int) (h : SlP w A n c l) (hz : SzP l) (h0 : 0 ≤ left) (h1 : left ≤ 1048576) : Calls Try.prog 19 #[.agg #[.int .i64 v, .slice A n c], .int .i64 left] w fun e w' =>
    ∃ r : Int, e = .returned (.int .i64 r) ∧ (r < 0 ∨ (0 ≤ r ∧ r + (n : Int) + (sumA l : Int) ≤ left)) ∧ Below w.heap.size w w' := by
  have hW := bel_al (bel_refl w) (.cells #[.int .i64 v, .slice A n c] 34)
  go_enter Try.func19, Try.ntmps19
  go_wp2_with fail
  refine (szStepS_s A n c l _ left (h.al _) hz h0 h1).mono ?_
  rintro e w1 ⟨r, rfl, hr, hb1⟩
  have hW := bel_nx hW hb1
  rcases hr with hr | ⟨hr0, hr3⟩
  · go_wp2_with fail
    go_ret
    exact ⟨_, rfl, .inl (by omega), hW⟩
  · have HR := Lib.hid hr3
    clear hr3
    go_wp2_with fail
    go_ret
    exact ⟨_, rfl, .inr ⟨hr0, HR.out⟩, hW⟩
theorem szRun_s (st : Int) (A : Option Addr) (n c : Nat) (l : List ByteArray) (w : World) (left : Int) (h : SlS w A n c l) (hz : SzL l) (h0 : 0 ≤ left) (h1 : left ≤ 1048576) : Calls Try.prog 27 #[.agg #[.int .i64 st, .slice A n c], .int .i64 left] w fun e w' =>
    ∃ r : Int, e = .returned (.int .i64 r) ∧ (r < 0 ∨ (0 ≤ r ∧ r + (n : Int) ≤ left)) ∧ Below w.heap.size w w' := by
  have hW := bel_al (bel_refl w) (.cells #[.int .i64 st, .slice A n c] 46)
  go_enter Try.func27, Try.ntmps27
  go_wp2_with fail
  refine (szStringS_s A n c l _ left (h.al _) hz h0 h1).mono ?_
  rintro e w1 ⟨r, rfl, hr, rfl⟩
  rcases hr with hr | ⟨hr0, hr1⟩
  · go_wp2_with fail
    go_ret
    exact ⟨_, rfl, .inl (by omega), hW⟩
  · go_wp2_with fail
    go_ret
    exact ⟨_, rfl, .inr ⟨hr0, hr1⟩, hW⟩

end Go.Proofs.Ytdchfiiaollheaa
