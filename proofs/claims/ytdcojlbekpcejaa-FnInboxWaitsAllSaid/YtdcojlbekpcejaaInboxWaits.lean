/- The messages that are missing: the walks over the program's and the reference's InboxWaits. -/
import Derived.Test.YtdcojlbekpcejaaInboxHas
import Derived.Test.YtdcojlbekpcejaaAppend
namespace Go.Proofs.Ytdcojlbekpcejaa
open Go.RowKit

/-- The numbers of a+1 .. a+k that have not come. -/
def missF (a : Int) (l : List Int) (k : Nat) : List Int := ((List.range k).map (fun (i : Nat) => a + 1 + (i : Int))).filter (fun x => ! hasB a l x)
theorem missF_zero (a : Int) (l : List Int) : missF a l 0 = [] := rfl
theorem missF_yes {a : Int} {l : List Int} {k : Nat} (h : hasB a l (a + 1 + (k : Int)) = true) : missF a l (k + 1) = missF a l k := by
  simp [missF, List.range_succ, h]
theorem missF_no {a : Int} {l : List Int} {k : Nat} (h : hasB a l (a + 1 + (k : Int)) = false) : missF a l (k + 1) = missF a l k ++ [a + 1 + (k : Int)] := by
  simp [missF, List.range_succ, h]
theorem missF_len (a : Int) (l : List Int) (k : Nat) : (missF a l k).length ≤ k := by
  unfold missF
  exact Nat.le_trans (List.length_filter_le _ _) (by simp)

/-- What InboxWaits answers. -/
def waitsF (a : Int) (l : List Int) : List Int :=
  if inbB a l = true then match l.getLast? with
    | some z => missF a l (z - (a + 1)).toNat
    | none => []
  else []
theorem waitsF_no1 {a : Int} {l : List Int} (h : inbB a l = false) : waitsF a l = [] := by simp [waitsF, h]
theorem waitsF_no2 {a : Int} {l : List Int} (h : l.length = 0) : waitsF a l = [] := by
  have : l = [] := List.length_eq_zero_iff.1 h
  subst this
  simp [waitsF]
theorem waitsF_yes {a z : Int} {l : List Int} {n : Nat} (h : inbB a l = true) (hn : l.length = n) (hz : l[n - 1]? = some z) : waitsF a l = missF a l (z - (a + 1)).toNat := by
  subst hn
  simp [waitsF, h, List.getLast?_eq_getElem?, hz]
theorem inb_all {a : Int} {l : List Int} (h : inbB a l = true) : 0 ≤ a ∧ a ≤ 999 ∧ l.length ≤ 6 ∧ ∀ k, k < l.length → okAt (okN a) ltZ l k = true := by
  simp only [inbB, Bool.and_eq_true, decide_eq_true_eq] at h
  obtain ⟨⟨⟨h1, h2⟩, h3⟩, h4⟩ := h
  exact ⟨h1, h2, h3, fun k hk => by
    cases hc : okAt (okN a) ltZ l k
    · rw [okAll_no hk hc] at h4; cases h4
    · rfl⟩
theorem inb_at {a z : Int} {l : List Int} {k : Nat} (h : inbB a l = true) (hz : l[k]? = some z) : a + 2 ≤ z ∧ z ≤ 999 := by
  obtain ⟨_, _, _, H⟩ := inb_all h
  have hk := H k (List.getElem?_eq_some_iff.1 hz).1
  cases hc : okN a z
  · rw [okAt_bad hz hc] at hk; cases hk
  · simpa [okN] using hc

set_option maxHeartbeats 1000000 in
theorem implInboxWaits_c (a : Int) (A : Option Addr) (n c : Nat) (l : List Int) (w : World) (h : SlI w A n c l) (ha : -9223372036854775808 ≤ a) (ha2 : a ≤ 9223372036854775807) : Calls Try.prog 26 #[.agg #[.int .i64 a, .slice A n c]] w fun e w' =>
    ∃ A' m c', e = .returned (.slice A' m c') ∧ w'.ownsRow w.heap.size 3 1 (.slice A' m c') m ((waitsF a l).map (Value.int .i64)) ∧ m ≤ 1000 ∧ Below w.heap.size w w' := by
  obtain ⟨i0, hi0, hz0, hz1, hz2⟩ := info_parts int_info
  have HL := Lib.hid h.len
  have hcap := h.cap
  have hmax := h.max
  go_enter Try.func26, Try.ntmps26
  go_wp2_with fail
  have k0 := Blk.new w 25 #[.int .i64 a, .slice A n c]
  refine (implInboxValid_c a A n c l _ (by first | exact h.al _ | exact (h.al _).dr | exact (h.al _).drN _ | exact (h.al _).al _) ha ha2).mono ?_
  rintro e w1 ⟨rfl, hb1⟩
  have k1 := (k0).bel (by first | exact hb1 | simpa using hb1)
  have h1 : SlI w1 A n c l := (h.al _).bel (by first | exact hb1 | simpa using hb1)
  have hbw1 : Below w.heap.size w w1 := by (repeat' first | assumption | exact bel_refl _ | refine bel_al ?_ _ | refine bel_dr ?_ | refine bel_drN ?_ _ | refine bel_nx ?_ (by assumption) | (refine bel_set ?_ (by first | omega | (simp; omega)) _))
  have c1 := k1.cell
  have f1 := k1.frozen
  cases hv : inbB a l
  · have HF := Lib.hid (waitsF_no1 hv)
    clear hv
    go_wp2_with fail
    go_ret
    exact ⟨none, 0, 0, rfl, by rw [HF.out]; exact World.ownsRow_nil _ _ _ _, by omega, by (repeat' first | assumption | exact bel_refl _ | refine bel_al ?_ _ | refine bel_dr ?_ | refine bel_drN ?_ _ | refine bel_nx ?_ (by assumption) | (refine bel_set ?_ (by first | omega | (simp; omega)) _))⟩
  have HV := Lib.hid hv
  clear hv
  by_cases hn : n = 0
  · subst hn
    have HF := Lib.hid (waitsF_no2 (a := a) HL.out)
    go_wp2_with fail
    go_ret
    exact ⟨none, 0, 0, rfl, by rw [HF.out]; exact World.ownsRow_nil _ _ _ _, by omega, by (repeat' first | assumption | exact bel_refl _ | refine bel_al ?_ _ | refine bel_dr ?_ | refine bel_drN ?_ _ | refine bel_nx ?_ (by assumption) | (refine bel_set ?_ (by first | omega | (simp; omega)) _))⟩
  obtain ⟨p, rfl⟩ : ∃ p, n = p + 1 := ⟨n - 1, by omega⟩
  have hn0 : (((p + 1 : Nat) : Int) == 0) = false := by simp; omega
  have hn1 : ((p : Int) + 1 == 0) = false := by simp; omega
  obtain ⟨b, off, z, rfl, hz, hcz⟩ := SlI.get h1 (i := p) (by omega)
  have HZ0 := Lib.hid hz
  have HZ := Lib.hid (waitsF_yes HV.out HL.out hz)
  have hzb := inb_at HV.out hz
  obtain ⟨ha0, ha9, _⟩ := inb_all HV.out
  clear hz hcz
  have hw1 : IntKind.i64.wrap (a + 1) = a + 1 := by rw [IntKind.wrap_i64]; omega
  go_wp2_with fail
  go_loopw [3, 4] (fun s i wr => ∃ (k m c' : Nat) (A' : Option Addr), a + 1 + (k : Int) ≤ z ∧ i = .int .i64 (a + 1 + (k : Int)) ∧ s = .slice A' m c' ∧ wr.ownsRow w.heap.size 3 1 (.slice A' m c') m ((missF a l k).map (Value.int .i64)) ∧ m ≤ k ∧ Below w.heap.size w wr ∧ Blk wr w.heap.size 25 #[.int .i64 a, .slice (some ⟨b, off, none⟩) (p + 1) c]) (fun _ i _ => (z - intOf i).toNat)
  case atStart => exact ⟨0, 0, 0, none, by omega, by simp, rfl, by rw [missF_zero]; exact World.ownsRow_nil _ _ _ _, Nat.le_refl _, hbw1, k1⟩
  case round =>
    obtain ⟨k, m, c', A', hk, rfl, rfl, hown, hm, hbr, kr⟩ := hrel
    have cr := kr.cell
    have fr := kr.frozen
    have hr := h.bel hbr
    obtain ⟨b', off', z', hA', hz', hcz⟩ := SlI.get hr (i := p) (by omega)
    obtain ⟨rfl, rfl⟩ : b = b' ∧ off = off' := by simpa using hA'
    obtain rfl : z = z' := by have := HZ0.out.symm.trans hz'; simpa using this
    clear hz' hA'
    have p0 : (0 : Int) ≤ (p : Int) := by omega
    have p1 : (p : Int) < ((p + 1 : Nat) : Int) := by omega
    have p2 : (p : Int) < (p : Int) + 1 := by omega
    by_cases hlt : a + 1 + (k : Int) < z
    · have dl : decide (a + 1 + (k : Int) < z) = true := decide_eq_true hlt
      go_wp2_with fail
      try go_quiet (fail)
      try go_wp2_with fail
      refine (implHas_c a (some ⟨b, off, none⟩) (p + 1) c l (a + 1 + (k : Int)) _ (by first | exact hr | exact hr.dr | exact hr.drN _)).mono ?_
      rintro e w2 ⟨rfl, hb2⟩
      have kr2 := kr.bel (by first | exact hb2 | simpa using hb2)
      have hown2 := own_bel hown (by first | exact hb2 | simpa using hb2)
      have hbr2 : Below w.heap.size w w2 := by first | exact bel_nx hbr hb2 | exact bel_nx (bel_drN hbr _) hb2 | exact bel_nx (bel_dr hbr) hb2
      have hw2 : IntKind.i64.wrap (a + 1 + (k : Int) + 1) = a + 1 + (k : Int) + 1 := by rw [IntKind.wrap_i64]; omega
      have hsz := hbr2.size
      cases hh : hasB a l (a + 1 + (k : Int))
      · have HH := Lib.hid hh
        clear hh
        go_wp2_with (at_builtin; refine wpList_append_sl (enc := encI) rfl _ _ 23 rfl w.heap.size 3 i0 (.int .i64 0) 1 8 Try.underlying23 hi0 hz0 hz1 hz2 rfl (by decide) (.slice A' m c') m ((missF a l k).map (Value.int .i64)) rfl (hown2.alloc _) (some ⟨w2.heap.size, 0, none⟩) 1 1 [a + 1 + (k : Int)] rfl (fun _ => rfl) (Sl.one (Blk.new _ _ _)) (fun a u hu => by simp [encI] at hu; subst hu; rfl) (by unfold maxLen; omega) (by omega) (by simp; omega) ?_; intro v5 w5 ho5 hg5 hl5; obtain ⟨A5, c5, rfl⟩ := own_form ho5; rw [flat_encI] at ho5)
        go_roundw
        case rel => exact ⟨k + 1, m + 1, c5, A5, by omega, by go_num, rfl, by rw [missF_no HH.out, List.map_append]; exact ho5, by omega, below_app hbr2 hsz hown2 hg5, app_blk kr2 hg5 (fun e => own_ne_blk hown2 kr2 (by decide) e.symm)⟩
        case measure => simp [intOf]; omega
      · have HH := Lib.hid hh
        clear hh
        go_wp2_with fail
        go_roundw
        case rel => exact ⟨k + 1, m, c', A', by omega, by go_num, rfl, by rw [missF_yes HH.out]; exact hown2, by omega, hbr2, kr2⟩
        case measure => simp [intOf]; omega
    · have dl : decide (a + 1 + (k : Int) < z) = false := decide_eq_false hlt
      go_wp2_with fail
      try go_quiet (fail)
      try go_wp2_with fail
      go_ret
      have hkz : k = (z - (a + 1)).toNat := by omega
      refine ⟨A', m, c', rfl, ?_, by omega, by first | exact hbr | exact bel_drN hbr _ | exact bel_dr hbr⟩
      rw [HZ.out, ← hkz]
      first | exact hown | exact own_dr hown | exact own_drN hown _

set_option maxHeartbeats 1000000 in
theorem specInboxWaits_c (a : Int) (A : Option Addr) (n c : Nat) (l : List Int) (w : World) (h : SlI w A n c l) (ha : -9223372036854775808 ≤ a) (ha2 : a ≤ 9223372036854775807) : Calls Try.prog 27 #[.agg #[.int .i64 a, .slice A n c]] w fun e w' =>
    ∃ A' m c', e = .returned (.slice A' m c') ∧ w'.ownsRow w.heap.size 3 1 (.slice A' m c') m ((waitsF a l).map (Value.int .i64)) ∧ m ≤ 1000 ∧ Below w.heap.size w w' := by
  obtain ⟨i0, hi0, hz0, hz1, hz2⟩ := info_parts int_info
  have HL := Lib.hid h.len
  have hcap := h.cap
  have hmax := h.max
  go_enter Try.func27, Try.ntmps27
  go_wp2_with fail
  have k0 := Blk.new w 25 #[.int .i64 a, .slice A n c]
  refine (specInboxValid_c a A n c l _ (by first | exact h.al _ | exact (h.al _).dr | exact (h.al _).drN _ | exact (h.al _).al _) ha ha2).mono ?_
  rintro e w1 ⟨rfl, hb1⟩
  have k1 := (k0.al (.cells #[] 3)).bel (by first | exact hb1 | simpa using hb1)
  have h1 : SlI w1 A n c l := ((h.al _).al _).bel (by first | exact hb1 | simpa using hb1)
  have hbw1 : Below w.heap.size w w1 := by (repeat' first | assumption | exact bel_refl _ | refine bel_al ?_ _ | refine bel_dr ?_ | refine bel_drN ?_ _ | refine bel_nx ?_ (by assumption) | (refine bel_set ?_ (by first | omega | (simp; omega)) _))
  have ho1 : w1.ownsRow w.heap.size 3 1 (.slice (some ⟨w.heap.size + 1, 0, none⟩) 0 0) 0 [] := by
    have ho0 := ownsRow_base (World.ownsRow_lit (size := 1) (e := 3) (w.alloc (.cells #[.int .i64 a, .slice A n c] 25)) #[] 0 (Nat.le_refl _) (by unfold maxLen; omega) rfl) (B' := w.heap.size) (by simp)
    simp only [World.alloc, Array.size_push] at ho0
    exact own_bel ho0 (by first | exact hb1 | simpa using hb1)
  have c1 := k1.cell
  have f1 := k1.frozen
  cases hv : inbB a l
  · have HF := Lib.hid (waitsF_no1 hv)
    clear hv
    go_wp2_with fail
    go_ret
    exact ⟨some ⟨w.heap.size + 1, 0, none⟩, 0, 0, rfl, by rw [HF.out]; exact ho1, by omega, by (repeat' first | assumption | exact bel_refl _ | refine bel_al ?_ _ | refine bel_dr ?_ | refine bel_drN ?_ _ | refine bel_nx ?_ (by assumption) | (refine bel_set ?_ (by first | omega | (simp; omega)) _))⟩
  have HV := Lib.hid hv
  clear hv
  by_cases hn : n = 0
  · subst hn
    have HF := Lib.hid (waitsF_no2 (a := a) HL.out)
    go_wp2_with fail
    go_ret
    exact ⟨some ⟨w.heap.size + 1, 0, none⟩, 0, 0, rfl, by rw [HF.out]; exact ho1, by omega, by (repeat' first | assumption | exact bel_refl _ | refine bel_al ?_ _ | refine bel_dr ?_ | refine bel_drN ?_ _ | refine bel_nx ?_ (by assumption) | (refine bel_set ?_ (by first | omega | (simp; omega)) _))⟩
  obtain ⟨p, rfl⟩ : ∃ p, n = p + 1 := ⟨n - 1, by omega⟩
  have hn0 : (((p + 1 : Nat) : Int) == 0) = false := by simp; omega
  have hn1 : ((p : Int) + 1 == 0) = false := by simp; omega
  obtain ⟨b, off, z, rfl, hz, hcz⟩ := SlI.get h1 (i := p) (by omega)
  have HZ0 := Lib.hid hz
  have HZ := Lib.hid (waitsF_yes HV.out HL.out hz)
  have hzb := inb_at HV.out hz
  obtain ⟨ha0, ha9, _⟩ := inb_all HV.out
  clear hz hcz
  have hw1 : IntKind.i64.wrap (a + 1) = a + 1 := by rw [IntKind.wrap_i64]; omega
  go_wp2_with fail
  go_loopw [3, 4] (fun s i wr => ∃ (k m c' : Nat) (A' : Option Addr), a + 1 + (k : Int) ≤ z ∧ i = .int .i64 (a + 1 + (k : Int)) ∧ s = .slice A' m c' ∧ wr.ownsRow w.heap.size 3 1 (.slice A' m c') m ((missF a l k).map (Value.int .i64)) ∧ m ≤ k ∧ Below w.heap.size w wr ∧ Blk wr w.heap.size 25 #[.int .i64 a, .slice (some ⟨b, off, none⟩) (p + 1) c]) (fun _ i _ => (z - intOf i).toNat)
  case atStart => exact ⟨0, 0, 0, some ⟨w.heap.size + 1, 0, none⟩, by omega, by simp, rfl, by rw [missF_zero]; exact ho1, Nat.le_refl _, hbw1, k1⟩
  case round =>
    obtain ⟨k, m, c', A', hk, rfl, rfl, hown, hm, hbr, kr⟩ := hrel
    have cr := kr.cell
    have fr := kr.frozen
    have hr := h.bel hbr
    obtain ⟨b', off', z', hA', hz', hcz⟩ := SlI.get hr (i := p) (by omega)
    obtain ⟨rfl, rfl⟩ : b = b' ∧ off = off' := by simpa using hA'
    obtain rfl : z = z' := by have := HZ0.out.symm.trans hz'; simpa using this
    clear hz' hA'
    have p0 : (0 : Int) ≤ (p : Int) := by omega
    have p1 : (p : Int) < ((p + 1 : Nat) : Int) := by omega
    have p2 : (p : Int) < (p : Int) + 1 := by omega
    by_cases hlt : a + 1 + (k : Int) < z
    · have dl : decide (a + 1 + (k : Int) < z) = true := decide_eq_true hlt
      go_wp2_with fail
      try go_quiet (fail)
      try go_wp2_with fail
      refine (specHas_c a (some ⟨b, off, none⟩) (p + 1) c l (a + 1 + (k : Int)) _ (by first | exact hr | exact hr.dr | exact hr.drN _)).mono ?_
      rintro e w2 ⟨rfl, hb2⟩
      have kr2 := kr.bel (by first | exact hb2 | simpa using hb2)
      have hown2 := own_bel hown (by first | exact hb2 | simpa using hb2)
      have hbr2 : Below w.heap.size w w2 := by first | exact bel_nx hbr hb2 | exact bel_nx (bel_drN hbr _) hb2 | exact bel_nx (bel_dr hbr) hb2
      have hw2 : IntKind.i64.wrap (a + 1 + (k : Int) + 1) = a + 1 + (k : Int) + 1 := by rw [IntKind.wrap_i64]; omega
      have hsz := hbr2.size
      cases hh : hasB a l (a + 1 + (k : Int))
      · have HH := Lib.hid hh
        clear hh
        go_wp2_with (at_builtin; refine wpList_append_sl (enc := encI) rfl _ _ 23 rfl w.heap.size 3 i0 (.int .i64 0) 1 8 Try.underlying23 hi0 hz0 hz1 hz2 rfl (by decide) (.slice A' m c') m ((missF a l k).map (Value.int .i64)) rfl (hown2.alloc _) (some ⟨w2.heap.size, 0, none⟩) 1 1 [a + 1 + (k : Int)] rfl (fun _ => rfl) (Sl.one (Blk.new _ _ _)) (fun a u hu => by simp [encI] at hu; subst hu; rfl) (by unfold maxLen; omega) (by omega) (by simp; omega) ?_; intro v5 w5 ho5 hg5 hl5; obtain ⟨A5, c5, rfl⟩ := own_form ho5; rw [flat_encI] at ho5)
        go_roundw
        case rel => exact ⟨k + 1, m + 1, c5, A5, by omega, by go_num, rfl, by rw [missF_no HH.out, List.map_append]; exact ho5, by omega, below_app hbr2 hsz hown2 hg5, app_blk kr2 hg5 (fun e => own_ne_blk hown2 kr2 (by decide) e.symm)⟩
        case measure => simp [intOf]; omega
      · have HH := Lib.hid hh
        clear hh
        go_wp2_with fail
        go_roundw
        case rel => exact ⟨k + 1, m, c', A', by omega, by go_num, rfl, by rw [missF_yes HH.out]; exact hown2, by omega, hbr2, kr2⟩
        case measure => simp [intOf]; omega
    · have dl : decide (a + 1 + (k : Int) < z) = false := decide_eq_false hlt
      go_wp2_with fail
      try go_quiet (fail)
      try go_wp2_with fail
      go_ret
      have hkz : k = (z - (a + 1)).toNat := by omega
      refine ⟨A', m, c', rfl, ?_, by omega, by first | exact hbr | exact bel_drN hbr _ | exact bel_dr hbr⟩
      rw [HZ.out, ← hkz]
      first | exact hown | exact own_dr hown | exact own_drN hown _

end Go.Proofs.Ytdcojlbekpcejaa
