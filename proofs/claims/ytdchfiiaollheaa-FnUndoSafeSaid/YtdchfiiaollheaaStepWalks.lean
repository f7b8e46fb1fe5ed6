/- Searches over texts and steps: the walks over slices.Index, slices.Contains, NamesHave, l1At, l1Have, l2At, at, names, ready, l2Next. -/
import Derived.Test.YtdchfiiaollheaaSteps
import Derived.Test.YtdchfiiaollheaaDraw
namespace Go.Proofs.Ytdchfiiaollheaa
open Go.RowKit

set_option maxHeartbeats 400000 in
theorem index_c (A : Option Addr) (n c : Nat) (l : List ByteArray) (s : ByteArray) (w : World) (h : SlS w A n c l) : Calls Try.prog 96 #[.slice A n c, .string s] w fun e w' =>
    e = .returned (.int .i64 (atS l s)) ∧ w = w' := by
  have HL := Lib.hid h.len
  have hcap := h.cap
  have hmax := h.max
  go_enter Try.func96, Try.ntmps96
  go_wp2_with fail
  go_loop [8] (fun i => ∃ k : Nat, k ≤ n ∧ i = .int .i64 k ∧ Hid (∀ j (r : ByteArray), j < k → (l)[j]? = some r → r ≠ s)) (fun i => n - (intOf i).toNat)
  case atStart => exact ⟨0, Nat.zero_le _, rfl, Lib.hid (fun j r h => by omega)⟩
  case round =>
    obtain ⟨k, hk, rfl, H⟩ := hrel
    by_cases hlt : k < n
    · obtain ⟨b, off, t, rfl, hx, hc0⟩ := SlS.get h hlt
      have HX := Lib.hid hx
      clear hx
      have k0 : (0 : Int) ≤ (k : Int) := by omega
      have k1 : (k : Int) < (n : Int) := by omega
      by_cases hts : t = s
      · subst hts
        have e1 : (t.toList == t.toList) = true := by simp
        have HF := Lib.hid (atS_hit HX.out H.out)
        go_wp2_with fail
        go_ret
        exact ⟨ret_int HF.out.symm, rfl⟩
      · have e1 : (t.toList == s.toList) = false := beqS_no hts
        have e2 : (s.toList == t.toList) = false := beqS_no (Ne.symm hts)
        have HN := Lib.hid (ne_nextS HX.out hts H.out)
        clear hts
        go_wp2_with fail
        go_round
        case rel => exact ⟨k + 1, by omega, by go_num, HN⟩
        case measure => simp [intOf]; omega
    · have HF := Lib.hid (atS_miss (l := l) (s := s) (fun j r hj hr => H.out j r (by have := HL.out; omega) hr))
      go_wp2_with fail
      go_ret
      exact ⟨ret_int HF.out.symm, rfl⟩

set_option maxHeartbeats 400000 in
theorem l1At_c (A : Option Addr) (n c : Nat) (l : List ByteArray) (s : ByteArray) (w : World) (h : SlS w A n c l) : Calls Try.prog 86 #[.slice A n c, .string s] w fun e w' =>
    e = .returned (.int .i64 (atS l s)) ∧ w = w' := by
  have HL := Lib.hid h.len
  have hcap := h.cap
  have hmax := h.max
  go_enter Try.func86, Try.ntmps86
  go_wp2_with fail
  go_loop [5] (fun i => ∃ k : Nat, k ≤ n ∧ i = .int .i64 k ∧ Hid (∀ j (r : ByteArray), j < k → (l)[j]? = some r → r ≠ s)) (fun i => n - (intOf i).toNat)
  case atStart => exact ⟨0, Nat.zero_le _, rfl, Lib.hid (fun j r h => by omega)⟩
  case round =>
    obtain ⟨k, hk, rfl, H⟩ := hrel
    by_cases hlt : k < n
    · obtain ⟨b, off, t, rfl, hx, hc0⟩ := SlS.get h hlt
      have HX := Lib.hid hx
      clear hx
      have k0 : (0 : Int) ≤ (k : Int) := by omega
      have k1 : (k : Int) < (n : Int) := by omega
      by_cases hts : t = s
      · subst hts
        have e1 : (t.toList == t.toList) = true := by simp
        have HF := Lib.hid (atS_hit HX.out H.out)
        go_wp2_with fail
        go_ret
        exact ⟨ret_int HF.out.symm, rfl⟩
      · have e1 : (t.toList == s.toList) = false := beqS_no hts
        have e2 : (s.toList == t.toList) = false := beqS_no (Ne.symm hts)
        have HN := Lib.hid (ne_nextS HX.out hts H.out)
        clear hts
        go_wp2_with fail
        go_round
        case rel => exact ⟨k + 1, by omega, by go_num, HN⟩
        case measure => simp [intOf]; omega
    · have HF := Lib.hid (atS_miss (l := l) (s := s) (fun j r hj hr => H.out j r (by have := HL.out; omega) hr))
      go_wp2_with fail
      go_ret
      exact ⟨ret_int HF.out.symm, rfl⟩

set_option maxHeartbeats 400000 in
theorem l2At_c (A : Option Addr) (n c : Nat) (l : List Stp) (s : ByteArray) (w : World) (h : SlP w A n c l) : Calls Try.prog 57 #[.slice A n c, .string s] w fun e w' =>
    e = .returned (.int .i64 (atS (namesP l) s)) ∧ w = w' := by
  have HL := Lib.hid h.len
  have hcap := h.cap
  have hmax := h.max
  go_enter Try.func57, Try.ntmps57
  go_wp2_with fail
  go_loop [5] (fun i => ∃ k : Nat, k ≤ n ∧ i = .int .i64 k ∧ Hid (∀ j (r : ByteArray), j < k → ((namesP l))[j]? = some r → r ≠ s)) (fun i => n - (intOf i).toNat)
  case atStart => exact ⟨0, Nat.zero_le _, rfl, Lib.hid (fun j r h => by omega)⟩
  case round =>
    obtain ⟨k, hk, rfl, H⟩ := hrel
    by_cases hlt : k < n
    · obtain ⟨b, off, t, B, m, d, af, u, rfl, hx, hc0, hc1, hc2, haf⟩ := SlP.get h hlt
      have HX := Lib.hid (namesP_at hx)
      clear hx haf
      have k0 : (0 : Int) ≤ (k : Int) := by omega
      have k1 : (k : Int) < (n : Int) := by omega
      by_cases hts : t = s
      · subst hts
        have e1 : (t.toList == t.toList) = true := by simp
        have HF := Lib.hid (atS_hit HX.out H.out)
        go_wp2_with fail
        go_ret
        exact ⟨ret_int HF.out.symm, rfl⟩
      · have e1 : (t.toList == s.toList) = false := beqS_no hts
        have e2 : (s.toList == t.toList) = false := beqS_no (Ne.symm hts)
        have HN := Lib.hid (ne_nextS HX.out hts H.out)
        clear hts
        go_wp2_with fail
        go_round
        case rel => exact ⟨k + 1, by omega, by go_num, HN⟩
        case measure => simp [intOf]; omega
    · have HF := Lib.hid (atS_miss (l := (namesP l)) (s := s) (fun j r hj hr => H.out j r (by have := HL.out; simp [namesP] at hj; omega) hr))
      go_wp2_with fail
      go_ret
      exact ⟨ret_int HF.out.symm, rfl⟩

theorem contains_c (A : Option Addr) (n c : Nat) (l : List ByteArray) (s : ByteArray) (w : World) (h : SlS w A n c l) : Calls Try.prog 83 #[.slice A n c, .string s] w fun e w' =>
    e = .returned (.bool (inB l s)) ∧ w = w' := by
  go_enter Try.func83, Try.ntmps83
  go_wp2_with fail
  refine (index_c A n c l s _ h).mono ?_
  rintro e w1 ⟨rfl, rfl⟩
  have HI := Lib.hid (atS_in l s)
  go_wp2_with fail
  go_ret
  exact ⟨ret_bool HI.out, rfl⟩
theorem contains_b (A : Option Addr) (n c : Nat) (l : List ByteArray) (s : ByteArray) (b : Bool) (w : World) (h : SlS w A n c l) (hb : inB l s = b) : Calls Try.prog 83 #[.slice A n c, .string s] w fun e w' =>
    e = .returned (.bool b) ∧ w = w' := by
  rw [← hb]; exact contains_c A n c l s w h
theorem l1At_b (A : Option Addr) (n c : Nat) (l : List ByteArray) (s : ByteArray) (b : Bool) (w : World) (h : SlS w A n c l) (hb : inB l s = b) : Calls Try.prog 86 #[.slice A n c, .string s] w fun e w' =>
    ∃ q : Int, e = .returned (.int .i64 q) ∧ decide (q < 0) = (!b) ∧ w = w' :=
  (l1At_c A n c l s w h).mono fun e w' ⟨h1, h2⟩ => ⟨_, h1, by rw [atS_neg, hb], h2⟩

set_option maxHeartbeats 400000 in
theorem namesHave_c (A B : Option Addr) (n c m d : Nat) (l q : List ByteArray) (w : World) (h : SlS w A n c l) (h' : SlS w B m d q) : Calls Try.prog 53 #[.slice A n c, .slice B m d] w fun e w' =>
    e = .returned (.bool (haveB l q)) ∧ w = w' := by
  have HL := Lib.hid h'.len
  have hcap := h'.cap
  have hmax := h'.max
  go_enter Try.func53, Try.ntmps53
  go_wp2_with fail
  go_loop [9] (fun i => ∃ k : Nat, k ≤ m ∧ i = .int .i64 k ∧ Hid (∀ j (r : ByteArray), j < k → q[j]? = some r → inB l r = true)) (fun i => m - (intOf i).toNat)
  case atStart => exact ⟨0, Nat.zero_le _, rfl, Lib.hid (fun j r h => by omega)⟩
  case round =>
    obtain ⟨k, hk, rfl, H⟩ := hrel
    by_cases hlt : k < m
    · obtain ⟨b, off, t, rfl, hx, hc0⟩ := SlS.get h' hlt
      have HX := Lib.hid hx
      clear hx
      have k0 : (0 : Int) ≤ (k : Int) := by omega
      have k1 : (k : Int) < (m : Int) := by omega
      obtain ⟨bi, hbi⟩ : ∃ x, inB l t = x := ⟨_, rfl⟩
      have HB := Lib.hid hbi
      clear hbi
      go_wp2_with fail
      refine (contains_b A n c l t bi _ h HB.out).mono ?_
      rintro e w1 ⟨rfl, rfl⟩
      cases bi
      · have HF := Lib.hid (haveB_no HX.out HB.out)
        skip
        go_wp2_with fail
        go_ret
        exact ⟨ret_bool HF.out.symm, rfl⟩
      · have HN := Lib.hid (allI_next (P := fun r => inB l r = true) HX.out HB.out H.out)
        skip
        go_wp2_with fail
        go_round
        case rel => exact ⟨k + 1, by omega, by go_num, HN⟩
        case measure => simp [intOf]; omega
    · have HF := Lib.hid (haveB_yes (l := l) HL.out (fun j r hj hr => H.out j r (by omega) hr))
      go_wp2_with fail
      go_ret
      exact ⟨ret_bool HF.out.symm, rfl⟩

set_option maxHeartbeats 400000 in
theorem l1Have_c (A B : Option Addr) (n c m d : Nat) (l q : List ByteArray) (w : World) (h : SlS w A n c l) (h' : SlS w B m d q) : Calls Try.prog 94 #[.slice A n c, .slice B m d] w fun e w' =>
    e = .returned (.bool (haveB l q)) ∧ w = w' := by
  have HL := Lib.hid h'.len
  have hcap := h'.cap
  have hmax := h'.max
  go_enter Try.func94, Try.ntmps94
  go_wp2_with fail
  go_loop [5] (fun i => ∃ k : Nat, k ≤ m ∧ i = .int .i64 k ∧ Hid (∀ j (r : ByteArray), j < k → q[j]? = some r → inB l r = true)) (fun i => m - (intOf i).toNat)
  case atStart => exact ⟨0, Nat.zero_le _, rfl, Lib.hid (fun j r h => by omega)⟩
  case round =>
    obtain ⟨k, hk, rfl, H⟩ := hrel
    by_cases hlt : k < m
    · obtain ⟨b, off, t, rfl, hx, hc0⟩ := SlS.get h' hlt
      have HX := Lib.hid hx
      clear hx
      have k0 : (0 : Int) ≤ (k : Int) := by omega
      have k1 : (k : Int) < (m : Int) := by omega
      obtain ⟨bi, hbi⟩ : ∃ x, inB l t = x := ⟨_, rfl⟩
      have HB := Lib.hid hbi
      clear hbi
      go_wp2_with fail
      refine (l1At_b A n c l t bi _ h HB.out).mono ?_
      rintro e w1 ⟨z, rfl, hz, rfl⟩
      cases bi
      · have HF := Lib.hid (haveB_no HX.out HB.out)
        have hz : decide (z < 0) = true := hz
        go_wp2_with fail
        go_ret
        exact ⟨ret_bool HF.out.symm, rfl⟩
      · have HN := Lib.hid (allI_next (P := fun r => inB l r = true) HX.out HB.out H.out)
        have hz : decide (z < 0) = false := hz
        go_wp2_with fail
        go_round
        case rel => exact ⟨k + 1, by omega, by go_num, HN⟩
        case measure => simp [intOf]; omega
    · have HF := Lib.hid (haveB_yes (l := l) HL.out (fun j r hj hr => H.out j r (by omega) hr))
      go_wp2_with fail
      go_ret
      exact ⟨ret_bool HF.out.symm, rfl⟩

theorem namesHave_b (A B : Option Addr) (n c m d : Nat) (l q : List ByteArray) (b : Bool) (w : World) (h : SlS w A n c l) (h' : SlS w B m d q) (hb : haveB l q = b) : Calls Try.prog 53 #[.slice A n c, .slice B m d] w fun e w' => e = .returned (.bool b) ∧ w = w' := by
  rw [← hb]; exact namesHave_c A B n c m d l q w h h'
theorem l1Have_b (A B : Option Addr) (n c m d : Nat) (l q : List ByteArray) (b : Bool) (w : World) (h : SlS w A n c l) (h' : SlS w B m d q) (hb : haveB l q = b) : Calls Try.prog 94 #[.slice A n c, .slice B m d] w fun e w' => e = .returned (.bool b) ∧ w = w' := by
  rw [← hb]; exact l1Have_c A B n c m d l q w h h'

theorem sameStep_b (s nm : ByteArray) (B : Option Addr) (m d : Nat) (u : Bool) (p : Addr) (b : Bool) (w : World) (hp : w.cell? p = some (.string s)) (hb : (nm.toList == s.toList) = b) : Calls Try.prog 93 #[.agg #[.string nm, .slice B m d, .bool u], .pointer (some p)] w fun e w' =>
    e = .returned (.bool b) ∧ Below w.heap.size w w' := by
  have HB := Lib.hid hb
  clear hb
  have hp2 := (cell_alloc_some w (.cells #[.string nm, .slice B m d, .bool u] 30) p (by rw [hp]; rfl)).trans hp
  go_enter Try.func93, Try.ntmps93
  go_wp2
  go_ret
  exact ⟨ret_bool HB.out, by (repeat' first | exact bel_refl _ | refine bel_al ?_ _ | refine bel_dr ?_ | refine bel_drN ?_ _ | refine bel_nx ?_ (by assumption) | (refine bel_set ?_ (by first | omega | (simp; omega)) _))⟩

set_option maxHeartbeats 400000 in
theorem indexFunc_c (A : Option Addr) (n c : Nat) (l : List Stp) (s : ByteArray) (p : Addr) (w : World) (h : SlP w A n c l) (hp : w.cell? p = some (.string s)) : Calls Try.prog 92 #[.slice A n c, .func (.func 93) #[] #[.pointer (some p)]] w fun e w' =>
    e = .returned (.int .i64 (atS (namesP l) s)) ∧ Below w.heap.size w w' := by
  have HL := Lib.hid h.len
  have hcap := h.cap
  have hmax := h.max
  have HP := Lib.hid hp
  clear hp
  go_enter Try.func92, Try.ntmps92
  go_wp2_with fail
  go_loopw [8] (fun i wr => ∃ k : Nat, k ≤ n ∧ i = .int .i64 k ∧ Hid (∀ j (r : ByteArray), j < k → (namesP l)[j]? = some r → r ≠ s) ∧ Below w.heap.size w wr) (fun i _ => n - (intOf i).toNat)
  case atStart => exact ⟨0, Nat.zero_le _, rfl, Lib.hid (fun j r h => by omega), Below.refl _ _⟩
  case round =>
    obtain ⟨k, hk, rfl, H, hbr⟩ := hrel
    by_cases hlt : k < n
    · obtain ⟨b, off, t, B, m, d, af, u, rfl, hx, hc0, hc1, hc2, haf⟩ := SlP.get (h.bel hbr) hlt
      have HX := Lib.hid (namesP_at hx)
      clear hx haf
      have hpr := cell_later hbr HP.out
      have k0 : (0 : Int) ≤ (k : Int) := by omega
      have k1 : (k : Int) < (n : Int) := by omega
      by_cases hts : t = s
      · subst hts
        have e1 : (t.toList == t.toList) = true := by simp
        have HF := Lib.hid (atS_hit HX.out H.out)
        go_wp2_with fail
        refine (sameStep_b _ _ B m d u p true _ hpr e1).mono ?_
        rintro e w2 ⟨rfl, hb2⟩
        go_wp2_with fail
        go_ret
        exact ⟨ret_int HF.out.symm, bel_nx hbr hb2⟩
      · have e1 : (t.toList == s.toList) = false := beqS_no hts
        have HN := Lib.hid (ne_nextS HX.out hts H.out)
        clear hts
        go_wp2_with fail
        refine (sameStep_b _ _ B m d u p false _ hpr e1).mono ?_
        rintro e w2 ⟨rfl, hb2⟩
        go_wp2_with fail
        go_roundw
        case rel => exact ⟨k + 1, by omega, by go_num, HN, bel_nx hbr hb2⟩
        case measure => simp [intOf]; omega
    · have HF := Lib.hid (atS_miss (l := namesP l) (s := s) (fun j r hj hr => H.out j r (by have := HL.out; simp [namesP] at hj; omega) hr))
      go_wp2_with fail
      go_ret
      exact ⟨ret_int HF.out.symm, hbr⟩

theorem flowAt_c (v : Int) (A : Option Addr) (n c : Nat) (l : List Stp) (s : ByteArray) (w : World) (h : SlP w A n c l) : Calls Try.prog 65 #[.agg #[.int .i64 v, .slice A n c], .string s] w fun e w' =>
    e = .returned (.int .i64 (atS (namesP l) s)) ∧ Below w.heap.size w w' := by
  have kf := (Blk.new w 25 #[.int .i64 v, .slice A n c]).al (.cells #[.string s] 9)
  have ks := Blk.new (w.alloc (.cells #[.int .i64 v, .slice A n c] 25)) 9 #[.string s]
  simp only [World.alloc, Array.size_push] at ks
  have hW := bel_al (bel_al (bel_refl w) (.cells #[.int .i64 v, .slice A n c] 25)) (.cells #[.string s] 9)
  go_enter Try.func65, Try.ntmps65
  go_wp2_with fail
  refine (indexFunc_c A n c l s ⟨w.heap.size + 1, 0, none⟩ _ ((h.al _).al _) (ks.cell 0)).mono ?_
  rintro e w1 ⟨rfl, hb1⟩
  go_wp2_with fail
  go_ret
  exact ⟨rfl, bel_nx hW hb1⟩

end Go.Proofs.Ytdchfiiaollheaa
