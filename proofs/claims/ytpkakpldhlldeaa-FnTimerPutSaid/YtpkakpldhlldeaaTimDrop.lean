/- A timer is taken away: the walks over withoutTimer and both TimerDrop. -/
import Derived.Test.YtpkakpldhlldeaaTimDel
import Derived.Test.YtpkakpldhlldeaaTimValidS
namespace Go.Proofs.Ytpkakpldhlldeaa
open Go.RowKit

set_option maxHeartbeats 1000000 in
theorem withoutTimer_c (A : Option Addr) (n c : Nat) (l : List R2) (s : ByteArray) (w : World) (h : SlT w A n c l) (hn : n ≤ 1048576) : Calls Try.prog 39 #[.slice A n c, .string s] w fun e w' =>
    ∃ A' k c', e = .returned (.slice A' k c') ∧ w'.ownsRow w.heap.size 25 2 (.slice A' k c') k ((withF l s).flatMap encT) ∧ Below w.heap.size w w' := by
  obtain ⟨i0, hi0, hz0, hz1, hz2⟩ := info_parts tim_info
  have hcap := h.cap
  have hmax := h.max
  have kb := Blk.new w 9 #[.string s]
  go_enter Try.func39, Try.ntmps39
  go_wp2_with (at_builtin; refine wpList_append_sl (enc := encT) rfl _ _ 23 rfl w.heap.size 25 i0 (.agg #[.int .i64 0, .string ByteArray.empty]) 2 24 Try.underlying23 hi0 hz0 hz1 hz2 rfl (by decide) _ 0 [] rfl (World.ownsRow_nil _ _ _ _) A n c l rfl (fun _ => rfl) (h.al _) one_T (by unfold maxLen; omega) (by omega) (by simp) ?_; intro v3 w3 ho3 hg3 hl3; rw [Nat.zero_add, List.nil_append] at ho3; obtain ⟨A3, c3, rfl⟩ := own_form ho3)
  have hg3 : (w.alloc (.cells #[.string s] 9)).grownBy w3 none := hg3
  have kb3 := kb.gr hg3 (by simp)
  have hb3 : Below w.heap.size w w3 := (bel_al (bel_refl w) _).grown hg3 (by simp) (fun j hj => by cases hj)
  refine (deleteFunc_c w.heap.size n A3 c3 l s ⟨w.heap.size, 0, none⟩ w3 ho3 (kb3.cell 0) (own_ne_blk ho3 kb3 (by decide))).mono ?_
  rintro e w4 ⟨k, rfl, ho4, hg4⟩
  go_wp2_with fail
  go_ret
  exact ⟨A3, k, c3, rfl, ho4, hb3.grown hg4 hb3.size (fun j hj => (ho3.lt j hj).1)⟩

/-- What TimerDrop answers. -/
def dropR (l : List R2) (s : ByteArray) : List R2 × Bool := if (timB l && decide (withF l s ≠ l)) = true then (withF l s, true) else ([], false)
theorem dropR_no1 {l : List R2} {s : ByteArray} (h : timB l = false) : dropR l s = ([], false) := by simp [dropR, h]
theorem dropR_no2 {l : List R2} {s : ByteArray} (h : withF l s = l) : dropR l s = ([], false) := by simp [dropR, h]
theorem dropR_yes {l : List R2} {s : ByteArray} (h : timB l = true) (hw : withF l s ≠ l) : dropR l s = (withF l s, true) := by simp [dropR, h, hw]
theorem withF_eq_len {l : List R2} {s : ByteArray} (h : (withF l s).length = l.length) : withF l s = l := (List.filter_sublist (p := fun r : R2 => ! decide (r.2 = s)) (l := l)).eq_of_length h
theorem ret_pair {v : Value} {b c : Bool} (h : b = c) : Ending.returned (.tuple #[v, .bool b]) = .returned (.tuple #[v, .bool c]) := by rw [h]
theorem own_count2 {w : World} {B : Nat} {e : TypeId} {A : Option Addr} {n c : Nat} {l : List R2} (h : w.ownsRow B e 2 (.slice A n c) n (l.flatMap encT)) : n = l.length := by
  have := h.1
  rw [flat_len (k := 2) (fun _ => rfl)] at this
  omega

set_option maxHeartbeats 1000000 in
theorem implTimerDrop_c (A : Option Addr) (n c : Nat) (l : List R2) (s : ByteArray) (w : World) (h : SlT w A n c l) (hz : SzT l) (hn : n ≤ 1048576) : Calls Try.prog 16 #[.slice A n c, .string s] w fun e w' =>
    ∃ A' n' c', e = .returned (.tuple #[.slice A' n' c', .bool (dropR l s).2]) ∧ w'.ownsRow w.heap.size 25 2 (.slice A' n' c') n' ((dropR l s).1.flatMap encT) ∧ Below w.heap.size w w' := by
  have HL := Lib.hid h.len
  have hcap := h.cap
  have hmax := h.max
  go_enter Try.func16, Try.ntmps16
  go_wp2_with fail
  refine (withoutTimer_c A n c l s _ h hn).mono ?_
  rintro e w1 ⟨A1, k, c1, rfl, ho1, hb1⟩
  have h := h.bel hb1
  have hk := own_count2 ho1
  have HK := Lib.hid hk
  have hkn : k ≤ n := by rw [hk, ← HL.out]; exact withF_len l s
  clear hk
  go_wp2_with fail
  refine (implTimersValid_c _ _ _ l _ h hz).mono ?_
  rintro e w2 ⟨rfl, hb2⟩
  have ho2 := own_bel ho1 hb2
  have hW := bel_nx hb1 hb2
  cases hv : timB l
  · have HG := Lib.hid (dropR_no1 (s := s) hv)
    clear hv
    go_wp2_with fail
    go_ret2
    rw [HG.out]
    exact ⟨_, _, _, rfl, World.ownsRow_nil _ _ _ _, hW⟩
  have HV := Lib.hid hv
  clear hv
  by_cases hkk : k = n
  · have HG := Lib.hid (dropR_no2 (withF_eq_len (by rw [← HK.out, HL.out]; exact hkk)))
    have e1 : ((k : Int) == (n : Int)) = true := by simp; omega
    go_wp2_with fail
    go_ret2
    rw [HG.out]
    exact ⟨_, _, _, rfl, World.ownsRow_nil _ _ _ _, hW⟩
  · have HG := Lib.hid (dropR_yes HV.out (s := s) (fun e => hkk (by rw [HK.out, e, HL.out])))
    have e1 : ((k : Int) == (n : Int)) = false := by simp; omega
    go_wp2_with fail
    go_ret2
    rw [HG.out]
    exact ⟨_, _, _, rfl, ho2, hW⟩

theorem tims_new (w : World) : (w.alloc (.cells #[] 25)).ownsRow w.heap.size 25 2 (.slice (some ⟨w.heap.size, 0, none⟩) 0 0) 0 ([].flatMap encT) :=
  World.ownsRow_lit w #[] 0 (Nat.le_refl _) (by unfold maxLen; omega) rfl

theorem withF_cut {l : List R2} {s : ByteArray} {k : Nat} {x : Int} (h : timB l = true) (hk : l[k]? = some (x, s)) : withF l s = l.take k ++ l.drop (k + 1) := by
  have hd : (namesT l).Nodup := by
    simp only [timB, Bool.and_eq_true, decide_eq_true_iff] at h
    exact h.2
  obtain ⟨hl, he⟩ := List.getElem?_eq_some_iff.1 hk
  have hsp : l = l.take k ++ (x, s) :: l.drop (k + 1) := by
    rw [← he, ← List.drop_eq_getElem_cons hl, List.take_append_drop]
  have hd2 := hd
  rw [hsp, namesT, List.map_append, List.map_cons, List.nodup_append] at hd2
  obtain ⟨_, d2, d3⟩ := hd2
  rw [List.nodup_cons] at d2
  conv => lhs; rw [hsp]
  have f1 : withF (l.take k) s = l.take k := withF_none (fun j r _ hr hs => d3 s (List.mem_map.2 ⟨r, List.mem_of_getElem? hr, hs⟩) s (by simp) rfl)
  have f2 : withF (l.drop (k + 1)) s = l.drop (k + 1) := withF_none (fun j r _ hr hs => d2.1 (List.mem_map.2 ⟨r, List.mem_of_getElem? hr, hs⟩))
  unfold withF at f1 f2 ⊢
  rw [List.filter_append, f1, List.filter_cons_of_neg (by simp), f2]

set_option maxHeartbeats 1000000 in
theorem specTimerDrop_c (A : Option Addr) (n c : Nat) (l : List R2) (s : ByteArray) (w : World) (h : SlT w A n c l) (hz : SzT l) (hn : n ≤ 1048576) : Calls Try.prog 29 #[.slice A n c, .string s] w fun e w' =>
    ∃ A' n' c', e = .returned (.tuple #[.slice A' n' c', .bool (dropR l s).2]) ∧ w'.ownsRow w.heap.size 25 2 (.slice A' n' c') n' ((dropR l s).1.flatMap encT) ∧ Below w.heap.size w w' := by
  have HL := Lib.hid h.len
  have hcap := h.cap
  have hmax := h.max
  go_enter Try.func29, Try.ntmps29
  go_wp2_with fail
  refine (l15At_c _ _ _ l s _ h).mono ?_
  rintro e w1 ⟨rfl, hb1⟩
  have h := h.bel hb1
  have HC := Lib.hid (atF_cases l s)
  obtain ⟨at_, hat⟩ : ∃ a, atF l s = a := ⟨_, rfl⟩
  rw [hat]
  have HA := Lib.hid hat
  clear hat
  go_wp2_with fail
  refine (specTimersValid_c _ _ _ l _ h hz).mono ?_
  rintro e w2 ⟨rfl, hb2⟩
  have h := h.bel hb2
  have hW := bel_nx hb1 hb2
  cases hv : timB l
  · have HG := Lib.hid (dropR_no1 (s := s) hv)
    clear hv
    go_wp2_with fail
    go_ret2
    rw [HG.out]
    exact ⟨_, _, _, rfl, ownsRow_base (tims_new w2) hW.size, bel_al hW _⟩
  have HV := Lib.hid hv
  clear hv
  rcases HC.out with ⟨ha, hall⟩ | ⟨k, x, ha, hk, H⟩
  · have HG := Lib.hid (dropR_no2 (l := l) (s := s) (withF_none (fun j r _ hr => hall r (List.mem_of_getElem? hr))))
    rw [HA.out] at ha
    subst ha
    clear hall
    go_wp2_with fail
    go_ret2
    rw [HG.out]
    exact ⟨_, _, _, rfl, ownsRow_base (tims_new w2) hW.size, bel_al hW _⟩
  · rw [HA.out] at ha
    subst ha
    have hkn : k < n := by rw [← HL.out]; exact (List.getElem?_eq_some_iff.1 hk).1
    have hcut := withF_cut HV.out hk
    have hne : withF l s ≠ l := fun e => by
      have : (l.take k ++ l.drop (k + 1)).length = l.length := by rw [← hcut, e]
      simp [HL.out] at this
      omega
    have hdr := dropR_yes HV.out hne
    rw [hcut] at hdr
    have HG := Lib.hid hdr
    clear hcut hne hdr
    obtain ⟨b, off, x1, s1, rfl, hx, hc0, hc1⟩ := SlT.get h hkn
    have i0 : (0 : Int) ≤ (k : Int) := by omega
    have i1 : (k : Int) < (n : Int) := by omega
    have dk : decide ((k : Int) < 0) = false := by simp
    obtain ⟨ii, hi0, hz0, hz1, hz2⟩ := info_parts tim_info
    have hsD := h.drop (m := k + 1) (by omega)
    obtain ⟨AD, hAD⟩ : ∃ AD, (if c = k + 1 then some (⟨b, off, none⟩ : Addr) else some ⟨b, off + (k + 1) * 2, none⟩) = AD := ⟨_, rfl⟩
    rw [hAD] at hsD
    clear hk H hx
    have k1 : (k : Int) ≤ (c : Int) := by omega
    have k2 : (k : Int) + 1 ≤ (n : Int) := by omega
    go_wp2_with (first
      | (at_builtin; refine wpList_append_sl (enc := encT) rfl _ _ 23 rfl w2.heap.size 25 ii (.agg #[.int .i64 0, .string ByteArray.empty]) 2 24 Try.underlying23 hi0 hz0 hz1 hz2 rfl (by decide) _ _ _ rfl hoa AD (n - (k + 1)) (c - (k + 1)) (l.drop (k + 1)) rfl (fun _ => rfl) (hsD.bel hba) one_T (by unfold maxLen; omega) (by omega) hba.size ?_; intro vb wb hob hgb hlb)
      | (at_builtin; refine wpList_append_sl (enc := encT) rfl _ _ 23 rfl w2.heap.size 25 ii (.agg #[.int .i64 0, .string ByteArray.empty]) 2 24 Try.underlying23 hi0 hz0 hz1 hz2 rfl (by decide) _ 0 _ rfl (tims_new w2) (some ⟨b, off, none⟩) k c (l.take k) rfl (fun _ => rfl) ((h.take (by omega)).al _) one_T (by unfold maxLen; omega) (by omega) (by simp) ?_; intro va wa hoa hga hla; have hba : Below w2.heap.size w2 wa := (bel_al (bel_refl w2) _).grown hga (by simp) (fun j hj => by cases hj; exact Nat.le_refl _)))
    have hbb : Below w2.heap.size w2 wb := hba.grown hgb hba.size (fun j hj => (hoa.lt j hj).1)
    obtain ⟨Ab, cb, rfl⟩ := own_form hob
    go_ret2
    rw [HG.out]
    exact ⟨_, _, _, rfl, ownsRow_base (by simpa [List.flatMap_append] using hob) hW.size, bel_nx hW hbb⟩

end Go.Proofs.Ytpkakpldhlldeaa
