/- Names that ascend, the names of a flow, the steps that are ready, the next step: walks. -/
import Derived.Test.YtdchfiiaollheaaStepWalks
import Derived.Test.YtdchfiiaollheaaAppend
import Derived.Deep.RegionHeld3
namespace Go.Proofs.Ytdchfiiaollheaa
open Go.RowKit

theorem implNameValid_b (s : ByteArray) (b : Bool) (w : World) (hs : s.size ≤ 9223372036854775807) (hb : nameB s = b) : Calls Try.prog 95 #[.string s] w fun e w' => e = .returned (.bool b) ∧ w = w' := by
  rw [← hb]; exact implNameValid_c s w hs
theorem specNameValid_b (s : ByteArray) (b : Bool) (w : World) (hs : s.size ≤ 9223372036854775807) (hb : nameB s = b) : Calls Try.prog 85 #[.string s] w fun e w' => e = .returned (.bool b) ∧ w = w' := by
  rw [← hb]; exact specNameValid_c s w hs
theorem l6In_b (n lo hi : Int) (b : Bool) (w : World) (hb : (decide (lo ≤ n) && decide (n ≤ hi)) = b) : Calls Try.prog 58 #[.int .i64 n, .int .i64 lo, .int .i64 hi] w fun e w' => e = .returned (.bool b) ∧ w = w' := by
  rw [← hb]; exact l6In_c n lo hi w

theorem ret_str {a b : ByteArray} (h : a = b) : Ending.returned (.string a) = .returned (.string b) := by rw [h]
/-- Texts are valid names that ascend. -/
def ascB (l : List ByteArray) : Bool := okAll nameB ltS l

set_option maxHeartbeats 1000000 in
theorem namesAscend_c (A : Option Addr) (n c : Nat) (l : List ByteArray) (w : World) (h : SlS w A n c l) (hz : SzL l) : Calls Try.prog 80 #[.slice A n c] w fun e w' =>
    e = .returned (.bool (ascB l)) ∧ w = w' := by
  have HL := Lib.hid h.len
  have hcap := h.cap
  have hmax := h.max
  go_enter Try.func80, Try.ntmps80
  go_wp2_with fail
  go_loop [7] (fun i => ∃ k : Nat, k ≤ n ∧ i = .int .i64 k ∧ Hid (∀ j, j < k → okAt nameB ltS l j = true)) (fun i => n - (intOf i).toNat)
  case atStart => exact ⟨0, Nat.zero_le _, rfl, Lib.hid (fun j h => by omega)⟩
  case round =>
    obtain ⟨k, hk, rfl, H⟩ := hrel
    by_cases hlt : k < n
    · obtain ⟨b, off, t, rfl, hx, hc0⟩ := SlS.get h hlt
      have hts := szL_at hz hx
      have HX := Lib.hid hx
      clear hx
      have k0 : (0 : Int) ≤ (k : Int) := by omega
      have k1 : (k : Int) < (n : Int) := by omega
      obtain ⟨bi, hbi⟩ : ∃ x, nameB t = x := ⟨_, rfl⟩
      have HB := Lib.hid hbi
      clear hbi
      go_wp2_with fail
      refine (implNameValid_b t bi _ hts HB.out).mono ?_
      rintro e w1 ⟨rfl, rfl⟩
      cases bi
      · have HF := Lib.hid (okAll_no (lt := ltS) (by rw [HL.out]; exact hlt) (okAt_bad HX.out HB.out))
        go_wp2_with fail
        go_ret
        exact ⟨ret_bool HF.out.symm, rfl⟩
      · rcases Nat.eq_zero_or_pos k with hk0 | hk0
        · subst hk0
          have HO := Lib.hid (okAt_zero (lt := ltS) HX.out HB.out)
          go_wp2_with fail
          go_round
          case rel => exact ⟨1, by omega, by go_num, Lib.hid (upto_ok (k := 0) H.out HO.out)⟩
          case measure => simp [intOf]; omega
        · obtain ⟨j, rfl⟩ : ∃ j, k = j + 1 := ⟨k - 1, by omega⟩
          obtain ⟨b', off', t', hA', hy, hd0⟩ := SlS.get h (i := j) (by omega)
          cases hA'
          have hprev := okAt_prev (lt := ltS) HX.out HB.out (by omega) (show l[j + 1 - 1]? = some t' from hy)
          clear hy
          have hwj : IntKind.i64.wrap (j : Int) = (j : Int) := by rw [IntKind.wrap_i64]; omega
          have dj : decide ((0 : Int) < (j : Int) + 1) = true := decide_eq_true (by omega)
          have j0 : (0 : Int) ≤ (j : Int) := by omega
          have j1 : (j : Int) < (n : Int) := by omega
          cases hc : ltS t' t
          · have HF := Lib.hid (okAll_no (by rw [HL.out]; exact hlt) (hprev.trans hc))
            have e1 : (Op.bytesLess t.toList t'.toList || t.toList == t'.toList) = true := leqS_of hc
            clear hprev hc
            go_wp2_with fail
            go_ret
            exact ⟨ret_bool HF.out.symm, rfl⟩
          · have HO := Lib.hid (hprev.trans hc)
            have e1 : Op.bytesLess t.toList t'.toList = false := ltS_asymm hc
            have e2 : (t.toList == t'.toList) = false := beqS_no (ltS_ne hc).symm
            clear hprev hc
            go_wp2_with fail
            go_round
            case rel => exact ⟨j + 1 + 1, by omega, by go_num, Lib.hid (upto_ok H.out HO.out)⟩
            case measure => simp [intOf]; omega
    · have HF := Lib.hid (okAll_yes (ok := nameB) (lt := ltS) HL.out (fun j hj => H.out j (by omega)))
      go_wp2_with fail
      go_ret
      exact ⟨ret_bool HF.out.symm, rfl⟩
theorem namesAscend_b (A : Option Addr) (n c : Nat) (l : List ByteArray) (b : Bool) (w : World) (h : SlS w A n c l) (hz : SzL l) (hb : ascB l = b) : Calls Try.prog 80 #[.slice A n c] w fun e w' => e = .returned (.bool b) ∧ w = w' := by
  rw [← hb]; exact namesAscend_c A n c l w h hz

theorem own_countS {w : World} {B : Nat} {e : TypeId} {A : Option Addr} {n c : Nat} {l : List ByteArray} (h : w.ownsRow B e 1 (.slice A n c) n (l.map Value.string)) : n = l.length := by
  have := h.1
  simp at this
  exact this.symm

set_option maxRecDepth 20000 in
set_option maxHeartbeats 1000000 in
theorem flowNames_c (v : Int) (A : Option Addr) (n c : Nat) (l : List Stp) (w : World) (h : SlP w A n c l) (hn : n ≤ 1048576) : Calls Try.prog 81 #[.agg #[.int .i64 v, .slice A n c]] w fun e w' =>
    ∃ D dn dc, e = .returned (.slice D dn dc) ∧ w'.ownsRow w.heap.size 9 1 (.slice D dn dc) dn ((namesP l).map Value.string) ∧ Below w.heap.size w w' := by
  obtain ⟨i0, hi0, hz0, hz1, hz2⟩ := info_parts str_info
  have HL := Lib.hid h.len
  have hcap := h.cap
  have hmax := h.max
  have kf := Blk.new w 25 #[.int .i64 v, .slice A n c]
  have hW := bel_al (bel_refl w) (.cells #[.int .i64 v, .slice A n c] 25)
  go_enter Try.func81, Try.ntmps81
  go_wp2_with fail
  go_loopw [3, 9] (fun dv iv wr => ∃ (k dc : Nat) (D : Option Addr), k ≤ n ∧ iv = .int .i64 (k : Int) ∧ dv = .slice D k dc ∧ wr.ownsRow w.heap.size 9 1 (.slice D k dc) k ((namesP (l.take k)).map Value.string) ∧ Below w.heap.size w wr) (fun _ iv _ => n - (intOf iv).toNat)
  case atStart => exact ⟨0, 0, none, Nat.zero_le _, rfl, rfl, World.ownsRow_nil _ _ _ _, hW⟩
  case round =>
    obtain ⟨k, dc, D, hk, rfl, rfl, hD, hbr⟩ := hrel
    have hsz := hbr.size
    by_cases hlt : k < n
    · obtain ⟨b, off, t, B, m, d, af, u, rfl, hx, hc0, hc1, hc2, haf⟩ := SlP.get (h.bel hbr) hlt
      have HN := Lib.hid (namesP_take hx)
      clear hx haf
      have k0 : (0 : Int) ≤ (k : Int) := by omega
      have k1 : (k : Int) < (n : Int) := by omega
      have kb := Blk.new wr 30 #[.string t, .slice B m d, .bool u]
      have hD1 := hD.alloc (.cells #[.string t, .slice B m d, .bool u] 30)
      go_wp2_with (at_builtin; refine wpList_append_sl (enc := encS) rfl _ _ 28 rfl w.heap.size 9 i0 (.string ByteArray.empty) 1 16 Try.underlying28 hi0 hz0 hz1 hz2 rfl (by decide) (.slice D k dc) k ((namesP (l.take k)).map Value.string) rfl (hD1.alloc _) (some ⟨wr.heap.size + 1, 0, none⟩) 1 1 [t] rfl (fun _ => rfl) (by have hh := Sl.one (enc := encS) (k := 1) (a := t) (Blk.new (wr.alloc (.cells #[.string t, .slice B m d, .bool u] 30)) 9 #[.string t]); simpa using hh) one_S (by unfold maxLen; omega) (by omega) (by simp; omega) ?_; intro v5 w5 ho5 hg5 hl5; obtain ⟨A5, c5, rfl⟩ := own_form ho5; rw [flat_encS, ← List.map_append] at ho5)
      have hg := ((World.grownBy_alloc wr _ _).trans (World.grownBy_alloc _ _ _)).trans hg5
      go_roundw
      case rel => exact ⟨k + 1, c5, A5, by omega, by go_num, rfl, by rw [HN.out]; exact ho5, hbr.grown hg hsz (fun q hq => (hD.lt q hq).1)⟩
      case measure => simp [intOf]; omega
    · have hkn : l.take k = l := List.take_of_length_le (by rw [HL.out]; omega)
      rw [hkn] at hD
      go_wp2_with fail
      go_ret
      exact ⟨D, k, dc, rfl, hD, hbr⟩

set_option maxRecDepth 20000 in
set_option maxHeartbeats 1000000 in
theorem ready_c (v : Int) (A : Option Addr) (n c : Nat) (l : List Stp) (G : Option Addr) (gn gc : Nat) (done : List ByteArray) (w : World) (h : SlP w A n c l) (h' : SlS w G gn gc done) (hn : n ≤ 1048576) : Calls Try.prog 76 #[.agg #[.int .i64 v, .slice A n c], .slice G gn gc] w fun e w' =>
    ∃ D dn dc, e = .returned (.slice D dn dc) ∧ w'.ownsRow w.heap.size 9 1 (.slice D dn dc) dn ((readyP l done).map Value.string) ∧ Below w.heap.size w w' := by
  obtain ⟨i0, hi0, hz0, hz1, hz2⟩ := info_parts str_info
  have HL := Lib.hid h.len
  have hcap := h.cap
  have hmax := h.max
  have kf := Blk.new w 25 #[.int .i64 v, .slice A n c]
  have hW := bel_al (bel_refl w) (.cells #[.int .i64 v, .slice A n c] 25)
  go_enter Try.func76, Try.ntmps76
  go_wp2_with fail
  go_loopw [5, 11] (fun dv iv wr => ∃ (k dn dc : Nat) (D : Option Addr), k ≤ n ∧ iv = .int .i64 (k : Int) ∧ dv = .slice D dn dc ∧ wr.ownsRow w.heap.size 9 1 (.slice D dn dc) dn ((readyP (l.take k) done).map Value.string) ∧ dn ≤ k ∧ Below w.heap.size w wr) (fun _ iv _ => n - (intOf iv).toNat)
  case atStart => exact ⟨0, 0, 0, none, Nat.zero_le _, rfl, rfl, World.ownsRow_nil _ _ _ _, by omega, hW⟩
  case round =>
    obtain ⟨k, dn, dc, D, hk, rfl, rfl, hD, hdn, hbr⟩ := hrel
    have hsz := hbr.size
    by_cases hlt : k < n
    · obtain ⟨b, off, t, B, m, d, af, u, rfl, hx, hc0, hc1, hc2, haf⟩ := SlP.get (h.bel hbr) hlt
      have HX := Lib.hid hx
      clear hx
      have k0 : (0 : Int) ≤ (k : Int) := by omega
      have k1 : (k : Int) < (n : Int) := by omega
      have kb := Blk.new wr 30 #[.string t, .slice B m d, .bool u]
      have hD1 := hD.alloc (.cells #[.string t, .slice B m d, .bool u] 30)
      have hbr1 := bel_al hbr (.cells #[.string t, .slice B m d, .bool u] 30)
      have haf1 := haf.al (.cells #[.string t, .slice B m d, .bool u] 30)
      have hG1 := h'.bel hbr1
      have ck := kb.cell
      obtain ⟨b1, hb1⟩ : ∃ x, inB done t = x := ⟨_, rfl⟩
      have HB1 := Lib.hid hb1
      clear hb1
      obtain ⟨b2, hb2⟩ : ∃ x, haveB done af = x := ⟨_, rfl⟩
      have HB2 := Lib.hid hb2
      clear hb2
      go_wp2_with fail
      refine (contains_b G gn gc done t b1 _ hG1 HB1.out).mono ?_
      rintro e w1 ⟨rfl, rfl⟩
      cases b1
      · go_wp2_with fail
        refine (namesHave_b G B gn gc m d done af b2 _ hG1 haf1 HB2.out).mono ?_
        rintro e w2 ⟨rfl, rfl⟩
        cases b2
        · have HN := Lib.hid (readyP_out2 HX.out HB2.out)
          go_wp2_with fail
          go_roundw
          case rel => exact ⟨k + 1, dn, dc, D, by omega, by go_num, rfl, by rw [HN.out]; exact hD1, by omega, hbr1⟩
          case measure => simp [intOf]; omega
        · have HN := Lib.hid (readyP_in HX.out HB1.out HB2.out)
          go_wp2_with (at_builtin; refine wpList_append_sl (enc := encS) rfl _ _ 28 rfl w.heap.size 9 i0 (.string ByteArray.empty) 1 16 Try.underlying28 hi0 hz0 hz1 hz2 rfl (by decide) (.slice D dn dc) dn ((readyP (l.take k) done).map Value.string) rfl (hD1.alloc _) (some ⟨wr.heap.size + 1, 0, none⟩) 1 1 [t] rfl (fun _ => rfl) (by have hh := Sl.one (enc := encS) (k := 1) (a := t) (Blk.new (wr.alloc (.cells #[.string t, .slice B m d, .bool u] 30)) 9 #[.string t]); simpa using hh) one_S (by unfold maxLen; omega) (by omega) (by simp; omega) ?_; intro v5 w5 ho5 hg5 hl5; obtain ⟨A5, c5, rfl⟩ := own_form ho5; rw [flat_encS, ← List.map_append] at ho5)
          have hg := ((World.grownBy_alloc wr _ _).trans (World.grownBy_alloc _ _ _)).trans hg5
          go_roundw
          case rel => exact ⟨k + 1, dn + 1, c5, A5, by omega, by go_num, rfl, by rw [HN.out]; exact ho5, by omega, hbr.grown hg hsz (fun q hq => (hD.lt q hq).1)⟩
          case measure => simp [intOf]; omega
      · have HN := Lib.hid (readyP_out1 HX.out HB1.out)
        go_wp2_with fail
        go_roundw
        case rel => exact ⟨k + 1, dn, dc, D, by omega, by go_num, rfl, by rw [HN.out]; exact hD1, by omega, hbr1⟩
        case measure => simp [intOf]; omega
    · have hkn : l.take k = l := List.take_of_length_le (by rw [HL.out]; omega)
      rw [hkn] at hD
      go_wp2_with fail
      go_ret
      exact ⟨D, dn, dc, rfl, hD, hbr⟩

/-- The first step that can be done next, or an empty text. -/
def nextP (l : List Stp) (done : List ByteArray) : ByteArray := match readyP l done with | [] => ⟨#[]⟩ | x :: _ => x
theorem nextP_none {l : List Stp} {done : List ByteArray} (h : readyP l done = []) : nextP l done = ⟨#[]⟩ := by simp [nextP, h]
theorem nextP_some {l : List Stp} {done : List ByteArray} {k : Nat} {nm : ByteArray} {af : List ByteArray} {u : Bool} (h0 : readyP (l.take k) done = []) (h : l[k]? = some ⟨nm, af, u⟩) (h1 : inB done nm = false) (h2 : haveB done af = true) : nextP l done = nm := by
  have hl : l = l.take (k + 1) ++ l.drop (k + 1) := (List.take_append_drop _ _).symm
  have hr : readyP l done = nm :: readyP (l.drop (k + 1)) done := by
    conv => lhs; rw [hl]
    have := readyP_in (done := done) h h1 h2
    rw [h0] at this
    unfold readyP at this ⊢
    rw [List.filter_append, List.map_append, this]
    rfl
  simp [nextP, hr]

set_option maxRecDepth 20000 in
set_option maxHeartbeats 1000000 in
theorem l2Next_c (A : Option Addr) (n c : Nat) (l : List Stp) (G : Option Addr) (gn gc : Nat) (done : List ByteArray) (w : World) (h : SlP w A n c l) (h' : SlS w G gn gc done) : Calls Try.prog 87 #[.slice A n c, .slice G gn gc] w fun e w' =>
    e = .returned (.string (nextP l done)) ∧ w = w' := by
  have HL := Lib.hid h.len
  have hcap := h.cap
  have hmax := h.max
  go_enter Try.func87, Try.ntmps87
  go_wp2_with fail
  go_loop [5] (fun iv => ∃ (k : Nat), k ≤ n ∧ iv = .int .i64 (k : Int) ∧ Hid (readyP (l.take k) done = [])) (fun iv => n - (intOf iv).toNat)
  case atStart => exact ⟨0, Nat.zero_le _, rfl, Lib.hid (by simp [readyP])⟩
  case round =>
    obtain ⟨k, hk, rfl, HR⟩ := hrel
    by_cases hlt : k < n
    · obtain ⟨b, off, t, B, m, d, af, u, rfl, hx, hc0, hc1, hc2, haf⟩ := SlP.get h hlt
      have HX := Lib.hid hx
      clear hx
      have k0 : (0 : Int) ≤ (k : Int) := by omega
      have k1 : (k : Int) < (n : Int) := by omega
      obtain ⟨b1, hb1⟩ : ∃ x, inB done t = x := ⟨_, rfl⟩
      have HB1 := Lib.hid hb1
      clear hb1
      obtain ⟨b2, hb2⟩ : ∃ x, haveB done af = x := ⟨_, rfl⟩
      have HB2 := Lib.hid hb2
      clear hb2
      go_wp2_with fail
      refine (l1At_b G gn gc done t b1 _ h' HB1.out).mono ?_
      rintro e w1 ⟨z, rfl, hz, rfl⟩
      cases b1
      · have hz : decide (z < 0) = true := hz
        go_wp2_with fail
        refine (l1Have_b G B gn gc m d done af b2 _ h' haf HB2.out).mono ?_
        rintro e w2 ⟨rfl, rfl⟩
        cases b2
        · have HN := Lib.hid (readyP_out2 HX.out HB2.out)
          go_wp2_with fail
          go_round
          case rel => exact ⟨k + 1, by omega, by go_num, Lib.hid (by rw [HN.out]; exact HR.out)⟩
          case measure => simp [intOf]; omega
        · have HN := Lib.hid (nextP_some HR.out HX.out HB1.out HB2.out)
          go_wp2_with fail
          go_ret
          exact ⟨ret_str HN.out.symm, rfl⟩
      · have hz : decide (z < 0) = false := hz
        have HN := Lib.hid (readyP_out1 HX.out HB1.out)
        go_wp2_with fail
        go_round
        case rel => exact ⟨k + 1, by omega, by go_num, Lib.hid (by rw [HN.out]; exact HR.out)⟩
        case measure => simp [intOf]; omega
    · have HF := Lib.hid (nextP_none (l := l) (done := done) (by have := HR.out; rw [List.take_of_length_le (by rw [HL.out]; omega)] at this; exact this))
      go_wp2_with fail
      go_ret
      exact ⟨ret_str HF.out.symm, rfl⟩

end Go.Proofs.Ytdchfiiaollheaa
