/- A lease is given back: the walk over the reference's LeaseGive. -/
import Derived.Test.YthkgechljfjpdaaLeaseGive
namespace Go.Proofs.Ythkgechljfjpdaa
open Go.RowKit

theorem recs_new (w : World) : (w.alloc (.cells #[] 45)).ownsRow w.heap.size 45 3 (.slice (some ⟨w.heap.size, 0, none⟩) 0 0) 0 ([].flatMap encR) :=
  World.ownsRow_lit w #[] 0 (Nat.le_refl _) (by unfold maxLen; omega) rfl

set_option maxHeartbeats 1000000 in
theorem specLeaseGive_c (A : Option Addr) (n c : Nat) (l : List R3) (s : ByteArray) (o : Int) (w : World) (h : SlR w A n c l) (hz : SzR l) (hn : n ≤ 1048576) : Calls Try.prog 30 #[.slice A n c, .string s, .int .i64 o] w fun e w' =>
    ∃ A' n' c', e = .returned (.tuple #[.slice A' n' c', .bool (giveR l s o).2]) ∧ w'.ownsRow w.heap.size 45 3 (.slice A' n' c') n' ((giveR l s o).1.flatMap encR) ∧ Below w.heap.size w w' := by
  have HL := Lib.hid h.len
  have hcap := h.cap
  have hmax := h.max
  go_enter Try.func30, Try.ntmps30
  go_wp2_with fail
  refine (l21At_c _ _ _ l s _ h).mono ?_
  rintro e w1 ⟨rfl, rfl⟩
  have HC := Lib.hid (atR_cases l s)
  obtain ⟨at_, hat⟩ : ∃ a, atR l s = a := ⟨_, rfl⟩
  rw [hat]
  have HA := Lib.hid hat
  clear hat
  go_wp2_with fail
  refine (specLeasesValid_c _ _ _ l _ h hz).mono ?_
  rintro e w2 ⟨rfl, hb2⟩
  have h := h.bel hb2
  cases hv : leasesB l
  · have HG := Lib.hid (giveR_no1 (s := s) (o := o) hv)
    clear hv
    go_wp2_with fail
    go_ret2
    rw [HG.out]
    exact ⟨_, _, _, rfl, ownsRow_base (recs_new w2) hb2.size, bel_al hb2 _⟩
  have HV := Lib.hid hv
  clear hv
  rcases HC.out with ⟨ha, hall⟩ | ⟨k, ⟨s', x, y⟩, ha, hk, hr, H⟩
  · have HG := Lib.hid (giveR_no2 (o := o) hall)
    rw [HA.out] at ha
    subst ha
    clear hall
    go_wp2_with fail
    go_ret2
    rw [HG.out]
    exact ⟨_, _, _, rfl, ownsRow_base (recs_new w2) hb2.size, bel_al hb2 _⟩
  · have hak := ha
    rw [HA.out] at ha
    subst ha
    have hkn : k < n := by rw [← HL.out]; exact (List.getElem?_eq_some_iff.1 hk).1
    obtain ⟨b, off, s1, x1, y1, rfl, hx, hc0, hc1, hc2⟩ := SlR.get h hkn
    rw [hk] at hx
    cases hx
    have i0 : (0 : Int) ≤ (k : Int) := by omega
    have i1 : (k : Int) < (n : Int) := by omega
    have dk : decide ((k : Int) < 0) = false := by simp
    by_cases ho : x = o
    · have HG := Lib.hid (giveR_yes HV.out hak hk hr H ho)
      have e1 : (x == o) = true := by simpa using ho
      obtain ⟨ii, hi0, hz0, hz1, hz2⟩ := info_parts rec_info
      have hsD := h.drop (m := k + 1) (by omega)
      obtain ⟨AD, hAD⟩ : ∃ AD, (if c = k + 1 then some (⟨b, off, none⟩ : Addr) else some ⟨b, off + (k + 1) * 3, none⟩) = AD := ⟨_, rfl⟩
      rw [hAD] at hsD
      clear hak hk hr H ho
      have k1 : (k : Int) ≤ (c : Int) := by omega
      have k2 : (k : Int) + 1 ≤ (n : Int) := by omega
      go_wp2_with (first
        | (at_builtin; refine wpList_append_sl (enc := encR) rfl _ _ 23 rfl w2.heap.size 45 ii (.agg #[.string ByteArray.empty, .int .i64 0, .int .i64 0]) 3 32 Try.underlying23 hi0 hz0 hz1 hz2 rfl (by decide) _ _ _ rfl hoa AD (n - (k + 1)) (c - (k + 1)) (l.drop (k + 1)) rfl (fun _ => rfl) (hsD.bel hba) one_R (by unfold maxLen; omega) (by omega) hba.size ?_; intro vb wb hob hgb hlb)
        | (at_builtin; refine wpList_append_sl (enc := encR) rfl _ _ 23 rfl w2.heap.size 45 ii (.agg #[.string ByteArray.empty, .int .i64 0, .int .i64 0]) 3 32 Try.underlying23 hi0 hz0 hz1 hz2 rfl (by decide) _ 0 _ rfl (recs_new w2) (some ⟨b, off, none⟩) k c (l.take k) rfl (fun _ => rfl) ((h.take (by omega)).al _) one_R (by unfold maxLen; omega) (by omega) (by simp) ?_; intro va wa hoa hga hla; have hba : Below w2.heap.size w2 wa := (bel_al (bel_refl w2) _).grown hga (by simp) (fun j hj => by cases hj; exact Nat.le_refl _)))
      have hbb : Below w2.heap.size w2 wb := hba.grown hgb hba.size (fun j hj => (hoa.lt j hj).1)
      obtain ⟨Ab, cb, rfl⟩ := own_form hob
      go_ret2
      rw [HG.out]
      exact ⟨_, _, _, rfl, ownsRow_base (by simpa [List.flatMap_append] using hob) hb2.size, bel_nx hb2 hbb⟩
    · have HG := Lib.hid (giveR_no3 hk hr H ho)
      have e1 : (x == o) = false := by simpa using ho
      clear hak hk hr H ho
      go_wp2_with fail
      go_ret2
      rw [HG.out]
      exact ⟨_, _, _, rfl, ownsRow_base (recs_new w2) hb2.size, bel_al hb2 _⟩

end Go.Proofs.Ythkgechljfjpdaa
