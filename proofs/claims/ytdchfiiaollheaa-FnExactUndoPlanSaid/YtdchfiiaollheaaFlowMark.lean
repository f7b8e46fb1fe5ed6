/- Flows and runs of the call's own are marked: only their own memory is written. -/
import Derived.Test.YtdchfiiaollheaaFlowSum
namespace Go.Proofs.Ytdchfiiaollheaa
open Go.RowKit

/-- Only blocks from B up to H, and new ones, are written. -/
structure OutB (B H : Nat) (w w' : World) : Prop where
  os : w'.os = w.os
  tape : w'.tape = w.tape
  output : w'.output = w.output
  size : w.heap.size ≤ w'.heap.size
  block : ∀ j, j < w.heap.size → (j < B ∨ H ≤ j) → w'.heap[j]? = w.heap[j]?

section
variable {B H : Nat} {w W wx : World}
theorem OutB.refl (w : World) : OutB B H w w := ⟨rfl, rfl, rfl, Nat.le_refl _, fun _ _ _ => rfl⟩
theorem OutB.nx (h : OutB B H w W) (hb : Below W.heap.size W wx) : OutB B H w wx :=
  ⟨hb.os.trans h.os, hb.tape.trans h.tape, hb.output.trans h.output, Nat.le_trans h.size hb.size, fun j hj ho => (hb.block j (Nat.lt_of_lt_of_le hj h.size)).trans (h.block j hj ho)⟩
theorem OutB.gr (h : OutB B H w W) {g : Nat} (hg : W.grownBy wx (some g)) (h1 : B ≤ g) (h2 : g < H) : OutB B H w wx :=
  ⟨hg.os.trans h.os, hg.tape.trans h.tape, hg.output.trans h.output, Nat.le_trans h.size hg.size, fun j hj ho => (hg.block j (Nat.lt_of_lt_of_le hj h.size) (fun e => by cases e; omega)).trans (h.block j hj ho)⟩
theorem OutB.gro (h : OutB B H w W) {o : Option Nat} (hg : W.grownBy wx o) (h1 : ∀ g, o = some g → B ≤ g ∧ g < H) : OutB B H w wx :=
  ⟨hg.os.trans h.os, hg.tape.trans h.tape, hg.output.trans h.output, Nat.le_trans h.size hg.size, fun j hj ho => (hg.block j (Nat.lt_of_lt_of_le hj h.size) (fun e => by have := h1 j e.symm; omega)).trans (h.block j hj ho)⟩
theorem OutB.tr (h : OutB B H w W) (h2 : OutB B H W wx) : OutB B H w wx :=
  ⟨h2.os.trans h.os, h2.tape.trans h.tape, h2.output.trans h.output, Nat.le_trans h.size h2.size, fun j hj ho => (h2.block j (Nat.lt_of_lt_of_le hj h.size) ho).trans (h.block j hj ho)⟩
/-- A row outside of it is as before. -/
theorem OutB.own (h : OutB B H w W) {base : Nat} {e : TypeId} {k : Nat} {v : Value} {n : Nat} {xs : List Value} (ho : w.ownsRow base e k v n xs) (hv : ∀ j, v.ownBlock = some j → j < B ∨ H ≤ j) : W.ownsRow base e k v n xs := by
  refine ⟨ho.1, ?_⟩
  rcases ho.2 with h0 | ⟨g, cap, cur, h1, h2, h3, h4⟩
  · exact .inl h0
  · refine .inr ⟨g, cap, cur, h1, h2, ?_, h4⟩
    have hlt : g < w.heap.size := (Array.getElem?_eq_some_iff.1 h3).1
    exact (h.block g hlt (hv g (by rw [h1]; rfl))).trans h3
theorem OutB.blk (h : OutB B H w W) {g : Nat} {t : TypeId} {cs : Array Value} (hb : Blk w g t cs) (hg : g < B ∨ H ≤ g) : Blk W g t cs := (h.block g hb.lt hg).trans hb
theorem OutB.below (h : OutB B H w W) {w0 : World} (hb : Below w0.heap.size w0 w) (hB : w0.heap.size ≤ B) : Below w0.heap.size w0 W :=
  ⟨h.os.trans hb.os, h.tape.trans hb.tape, h.output.trans hb.output, Nat.le_trans hb.size h.size, fun j hj => (h.block j (Nat.lt_of_lt_of_le hj hb.size) (.inl (by omega))).trans (hb.block j hj)⟩
end

/-- Steps of the call's own, below H, whose lists hold some texts. -/
def OwnM (w : World) (B H : Nat) (A : Option Addr) (n c : Nat) (l : List Stp) (raw : List RawP) : Prop :=
  w.ownsRow B 30 3 (.slice A n c) n (raw.flatMap encP) ∧ raw.length = n ∧ l.length = n ∧ (∀ j, (Value.slice A n c).ownBlock = some j → j < H) ∧
  (∀ (i : Nat) (r : RawP) (s : Stp), raw[i]? = some r → l[i]? = some s → r.n = s.after.length ∧ (∃ xs : List ByteArray, w.ownsRow B 9 1 (.slice r.A r.n r.c) r.n (xs.map Value.string)) ∧ (∀ j, (Value.slice r.A r.n r.c).ownBlock = some j → j < H)) ∧ Dis raw raw.length
theorem OwnP.mark {w : World} {B : Nat} {A : Option Addr} {n c : Nat} {l : List Stp} (h : OwnP w B A n c l) : ∃ raw, OwnM w B w.heap.size A n c l raw := by
  obtain ⟨raw, h1, h2, h3, h4, h5⟩ := h
  refine ⟨raw, h1, h2, h3, fun j hj => (h1.lt j hj).2, fun i r s hr hs => ?_, h5⟩
  have h6 := (h4 i r s hr hs).2.2
  exact ⟨by have := own_countS h6; exact this, ⟨_, h6⟩, fun j hj => (h6.lt j hj).2⟩
theorem OwnM.bel {w w' : World} {B H : Nat} {A : Option Addr} {n c : Nat} {l : List Stp} {raw : List RawP} (h : OwnM w B H A n c l raw) (hb : Below w.heap.size w w') : OwnM w' B H A n c l raw := by
  obtain ⟨h1, h2, h3, h4, h5, h6⟩ := h
  exact ⟨own_bel h1 hb, h2, h3, h4, fun i r s hr hs => by
    obtain ⟨a, ⟨xs, b⟩, c⟩ := h5 i r s hr hs
    exact ⟨a, ⟨xs, own_bel b hb⟩, c⟩, h6⟩

theorem OwnM.al {w : World} {B H : Nat} {A : Option Addr} {n c : Nat} {l : List Stp} {raw : List RawP} (h : OwnM w B H A n c l raw) (o : Obj) : OwnM (w.alloc o) B H A n c l raw := by
  obtain ⟨h1, h2, h3, h4, h5, h6⟩ := h
  exact ⟨h1.alloc o, h2, h3, h4, fun i r s hr hs => by
    obtain ⟨a, ⟨xs, b⟩, c⟩ := h5 i r s hr hs
    exact ⟨a, ⟨xs, b.alloc o⟩, c⟩, h6⟩
theorem OwnM.dr {w : World} {B H : Nat} {A : Option Addr} {n c : Nat} {l : List Stp} {raw : List RawP} (h : OwnM w B H A n c l raw) : OwnM w.drew B H A n c l raw := h

/-- A cell of a step is written: its name, or whether it can be undone. -/
theorem OwnM.cell {w : World} {B H g : Nat} {n c : Nat} {l : List Stp} {raw : List RawP} (h : OwnM w B H (some ⟨g, 0, none⟩) n c l raw) {i j : Nat} {r r' : RawP} {u : Value} (hr : raw[i]? = some r) (hj : j < 3) (he : encP r' = (encP r).set j u) (ha : r'.A = r.A ∧ r'.n = r.n ∧ r'.c = r.c) : OwnM (w.setCell ⟨g, i * 3 + j, none⟩ u) B H (some ⟨g, 0, none⟩) n c l (raw.set i r') := by
  obtain ⟨h1, h2, h3, h4, h5, h6⟩ := h
  have hil : i < raw.length := (List.getElem?_eq_some_iff.1 hr).1
  have hst := (h1.stored (i * 3 + j) u).1
  rw [flat_set1 (enc := encP) (fun _ => rfl) hj raw i r hr he] at hst
  have hg := gr_cell w g (i * 3 + j) u
  -- what the raw steps are now
  have hraw : ∀ (m : Nat) (q : RawP), (raw.set i r')[m]? = some q → ∃ q0, raw[m]? = some q0 ∧ q.A = q0.A ∧ q.n = q0.n ∧ q.c = q0.c := by
    intro m q hq
    by_cases hm : m = i
    · subst hm
      rw [List.getElem?_set_self hil] at hq
      cases hq
      exact ⟨r, hr, ha.1, ha.2.1, ha.2.2⟩
    · rw [List.getElem?_set_ne (fun e => hm e.symm)] at hq
      exact ⟨q, hq, rfl, rfl, rfl⟩
  refine ⟨hst, by rw [List.length_set]; exact h2, h3, h4, fun m q s hq hs => ?_, fun a b q1 q2 hab hb hq1 hq2 x hx => ?_⟩
  · obtain ⟨q0, hq0, eA, en, ec⟩ := hraw m q hq
    obtain ⟨a, ⟨xs, b⟩, c⟩ := h5 m q0 s hq0 hs
    rw [eA, en, ec]
    exact ⟨a, ⟨xs, b.kept hg (own_ne_own b h1 (by decide))⟩, c⟩
  · obtain ⟨p1, hp1, e1, e2, e3⟩ := hraw a q1 hq1
    obtain ⟨p2, hp2, f1, f2, f3⟩ := hraw b q2 hq2
    rw [e1, e2, e3] at hx
    rw [f1, f2, f3]
    exact h6 a b p1 p2 hab (by rw [List.length_set] at hb; exact hb) hp1 hp2 x hx
/-- A step's list is written over. -/
theorem OwnM.list {w w' : World} {B H : Nat} {A : Option Addr} {n c : Nat} {l : List Stp} {raw : List RawP} (h : OwnM w B H A n c l raw) {i : Nat} {r : RawP} {ys : List ByteArray} (hr : raw[i]? = some r) (hn : w'.ownsRow B 9 1 (.slice r.A r.n r.c) r.n (ys.map Value.string)) (hg : w.grownBy w' (Value.slice r.A r.n r.c).ownBlock) : OwnM w' B H A n c l raw := by
  obtain ⟨h1, h2, h3, h4, h5, h6⟩ := h
  have hil : i < raw.length := (List.getElem?_eq_some_iff.1 hr).1
  obtain ⟨si, hsi⟩ : ∃ si, l[i]? = some si := ⟨_, List.getElem?_eq_getElem (by omega)⟩
  obtain ⟨_, ⟨zs, hz⟩, _⟩ := h5 i r si hr hsi
  refine ⟨h1.kept hg (own_ne_own h1 hz (by decide)), h2, h3, h4, fun m q s hq hs => ?_, h6⟩
  obtain ⟨a, ⟨xs, b⟩, c⟩ := h5 m q s hq hs
  refine ⟨a, ?_, c⟩
  by_cases hm : m = i
  · subst hm
    rw [hr] at hq
    cases hq
    exact ⟨ys, hn⟩
  · refine ⟨xs, b.kept hg ?_⟩
    rcases hb : (Value.slice q.A q.n q.c).ownBlock with _ | x
    · exact .inl rfl
    · refine .inr fun he => ?_
      have hml : m < raw.length := (List.getElem?_eq_some_iff.1 hq).1
      rcases Nat.lt_or_ge m i with hlt | hge
      · exact h6 m i q r hlt hil hq hr x hb he.symm
      · exact h6 i m r q (by omega) hml hr hq x he.symm hb

theorem sumA_le (l : List Stp) (k : Nat) : sumA (l.take k) ≤ sumA l := by
  have h : sumA (l.take k ++ l.drop k) = sumA (l.take k) + sumA (l.drop k) := by simp only [sumA, List.map_append, List.sum_append]
  rw [List.take_append_drop] at h
  omega

set_option maxRecDepth 20000 in
set_option maxHeartbeats 4000000 in
theorem markStepS_c (B H : Nat) (A : Option Addr) (n c k : Nat) (l : List Stp) (raw : List RawP) (w : World) (h : OwnM w B H A n c l raw) (hk : 0 < k) (hk2 : k + 2 * n + sumA l ≤ 100000000) : Calls Try.prog 78 #[.slice A n c, .int .i64 k] w fun e w' =>
    ∃ q : Nat, e = .returned (.int .i64 (q : Int)) ∧ (0 < q ∧ q ≤ k + 2 * n + sumA l) ∧ OutB B H w w' := by
  have HL := Lib.hid h.2.2.1
  have hs := Sl.of_own (k := 3) (fun _ => rfl) h.1 h.2.1
  have hcap := hs.cap
  have hmax := hs.max
  clear hs
  go_enter Try.func78, Try.ntmps78
  go_wp2_with fail
  go_loopw [5, 1] (fun i m wr => ∃ (j q : Nat) (raw : List RawP), j ≤ n ∧ i = .int .i64 (j : Int) ∧ m = .int .i64 (q : Int) ∧ 0 < q ∧ Hid (q = k + 2 * j + sumA (l.take j)) ∧ Hid (OwnM wr B H A n c l raw) ∧ OutB B H w wr) (fun i _ _ => n - (intOf i).toNat)
  case atStart => exact ⟨0, k, raw, Nat.zero_le _, rfl, rfl, hk, Lib.hid (by simp [sumA]), Lib.hid h, OutB.refl _⟩
  case round =>
    obtain ⟨j, q, raw2, hj, rfl, rfl, hq0, HQ, HM, hout⟩ := hrel
    by_cases hlt : j < n
    · obtain ⟨g, cap, hA, hgB, hgL⟩ := HM.out.1.form (by omega)
      obtain ⟨rfl, _, rfl⟩ := slice_inj hA
      have hgH := HM.out.2.2.2.1 g rfl
      obtain ⟨p, hp⟩ : ∃ p, l[j]? = some p := ⟨_, List.getElem?_eq_getElem (by rw [HL.out]; exact hlt)⟩
      obtain ⟨r, hr⟩ : ∃ r, raw2[j]? = some r := ⟨_, List.getElem?_eq_getElem (by rw [HM.out.2.1]; exact hlt)⟩
      have hsum := sumA_next hp
      have hle := sumA_le l (j + 1)
      have hrn := (HM.out.2.2.2.2.1 j r p hr hp).1
      obtain ⟨rn, hrn2⟩ : ∃ rn, r.n = rn := ⟨_, rfl⟩
      have HSUM := Lib.hid (show sumA (l.take (j + 1)) = sumA (l.take j) + rn by rw [hsum, ← hrn, hrn2])
      have hqb : q + rn + 2 ≤ 100000000 := by have := HQ.out; have := HSUM.out; omega
      have HP := Lib.hid hp
      have HR := Lib.hid hr
      have HN := Lib.hid hrn2
      clear hp hr hsum hle hrn hrn2 hA
      have i0 : (0 : Int) ≤ (j : Int) := by omega
      have i1 : (j : Int) < (n : Int) := by omega
      have hw1 : IntKind.i64.wrap ((q : Int) + 1) = ((q + 1 : Nat) : Int) := by rw [IntKind.wrap_i64]; omega
      go_wp2_with fail
      refine (markText_c q _ hq0 (by omega)).mono ?_
      rintro e w2 ⟨rfl, hb2⟩
      have HM2 := Lib.hid (HM.out.bel hb2)
      have hout2 := hout.nx hb2
      obtain ⟨⟨v0, hc0⟩, hf0⟩ := own_at HM2.out.1 (j := j * 3) (by omega)
      have HM3 := Lib.hid (HM2.out.cell (i := j) (j := 0) (r' := ⟨mt q, r.A, r.n, r.c, r.undo⟩) (u := .string (mt q)) HR.out (by omega) rfl ⟨rfl, rfl, rfl⟩)
      have hout3 := hout2.gr (gr_cell w2 g (j * 3) (.string (mt q))) hgB hgH
      rw [Nat.add_zero] at HM3
      obtain ⟨W3, hW3⟩ : ∃ W3, W3 = w2.setCell ⟨g, j * 3, none⟩ (.string (mt q)) := ⟨_, rfl⟩
      rw [← hW3] at HM3 hout3
      have HR3 : Hid ((raw2.set j ⟨mt q, r.A, r.n, r.c, r.undo⟩)[j]? = some ⟨mt q, r.A, r.n, r.c, r.undo⟩) := Lib.hid (List.getElem?_set_self (by rw [HM.out.2.1]; exact hlt))
      have hs3 := Sl.of_own (k := 3) (fun _ => rfl) HM3.out.1 HM3.out.2.1
      obtain ⟨b3, off3, hA3, hc3⟩ := hs3.at_ (by omega)
      cases hA3
      have hc1 := hc3 j _ HR3.out 1 _ rfl
      simp only [Nat.zero_add] at hc1
      obtain ⟨xs, hx3⟩ := (HM3.out.2.2.2.2.1 j _ p HR3.out HP.out).2.1
      have hxH := (HM3.out.2.2.2.2.1 j _ p HR3.out HP.out).2.2
      obtain ⟨rA, hrA⟩ : ∃ rA, r.A = rA := ⟨_, rfl⟩
      obtain ⟨rc, hrc⟩ : ∃ rc, r.c = rc := ⟨_, rfl⟩
      simp only at hx3 hxH hc1
      rw [HN.out, hrA, hrc] at hx3 hxH hc1
      clear hs3 hc3
      have hc1' : (w2.setCell ⟨g, j * 3, none⟩ (.string (mt q))).cell? ⟨g, j * 3 + 1, none⟩ = some (.slice rA rn rc) := by rw [← hW3]; exact hc1
      have hc1w : w2.cell? ⟨g, j * 3 + 1, none⟩ = some (.slice rA rn rc) := by
        rw [← hc1']
        exact (World.cell?_setCell_other _ _ _ _ (by simp)).symm
      go_wp2_with fail
      rw [← hW3]
      refine (markStringS_c B rA rn rc (q + 1) xs W3 hx3 (by omega) (by omega)).mono ?_
      rintro e w4 ⟨rfl, hx4, hg4⟩
      have HM4 := Lib.hid (HM3.out.list (r := ⟨mt q, r.A, r.n, r.c, r.undo⟩) (ys := marksG (mtS (q + 1)) rn) HR3.out (by simp only; rw [HN.out, hrA, hrc]; exact hx4) (by simp only; rw [HN.out, hrA, hrc]; exact hg4))
      have hout4 := hout3.gro hg4 (fun x hx => ⟨(hx3.lt x hx).1, hxH x hx⟩)
      obtain ⟨⟨v2, hd2⟩, hf2⟩ := own_at HM4.out.1 (j := j * 3 + 2) (by omega)
      have hw2 : IntKind.i64.wrap (((q + 1 + rn : Nat) : Int) + 1) = ((q + rn + 2 : Nat) : Int) := by rw [IntKind.wrap_i64]; omega
      clear hc1w hc1' hc1 hx3 hx4 hxH hc0 hf0 hW3
      go_wp2_with fail
      go_roundw
      case rel => exact ⟨j + 1, q + rn + 2, _, by omega, by go_num, by first | rfl | go_num, by omega, Lib.hid (by have h1 := HQ.out; have h2 := HSUM.out; omega), Lib.hid (HM4.out.cell (i := j) (j := 2) (r' := ⟨mt q, r.A, r.n, r.c, (((q : Int) + 1 + (rn : Int)) % 3 == 0)⟩) HR3.out (by omega) rfl ⟨rfl, rfl, rfl⟩), hout4.gr (gr_cell w4 g (j * 3 + 2) _) hgB hgH⟩
      case measure => simp [intOf]; omega
    · go_wp2_with fail
      go_ret
      exact ⟨q, rfl, ⟨hq0, by have h1 := HQ.out; have h2 := sumA_le l j; omega⟩, hout⟩

theorem markFlow_c (B H : Nat) (v : Int) (A : Option Addr) (n c k : Nat) (l : List Stp) (raw : List RawP) (w : World) (h : OwnM w B H A n c l raw) (hk : 0 < k) (hk2 : k + 2 * n + sumA l ≤ 100000000) : Calls Try.prog 45 #[.agg #[.int .i64 v, .slice A n c], .int .i64 k] w fun e w' =>
    ∃ q : Nat, e = .returned (.int .i64 (q : Int)) ∧ (0 < q ∧ q ≤ k + 2 * n + sumA l) ∧ OutB B H w w' := by
  have hW := bel_al (bel_refl w) (.cells #[.int .i64 v, .slice A n c] 25)
  go_enter Try.func45, Try.ntmps45
  go_wp2_with fail
  refine (markStepS_c B H A n c k l raw _ (h.bel hW) hk hk2).mono ?_
  rintro e w1 ⟨q, rfl, hqq, hout⟩
  go_wp2_with fail
  go_ret
  exact ⟨q, rfl, hqq, ((OutB.refl w).nx hW).tr hout⟩
theorem markRun_c (B H : Nat) (v : Int) (A : Option Addr) (n c k : Nat) (l : List ByteArray) (w : World) (h : w.ownsRow B 9 1 (.slice A n c) n (l.map Value.string)) (hH : ∀ j, (Value.slice A n c).ownBlock = some j → j < H) (hk : 0 < k) (hk2 : k + n ≤ 100000000) : Calls Try.prog 46 #[.agg #[.int .i64 v, .slice A n c], .int .i64 k] w fun e w' =>
    ∃ q : Nat, e = .returned (.int .i64 (q : Int)) ∧ OutB B H w w' := by
  have hW := bel_al (bel_refl w) (.cells #[.int .i64 v, .slice A n c] 40)
  go_enter Try.func46, Try.ntmps46
  go_wp2_with fail
  refine (markStringS_c B A n c k l _ (h.alloc _) hk hk2).mono ?_
  rintro e w1 ⟨rfl, hx, hg⟩
  go_wp2_with fail
  go_ret
  exact ⟨k + n, rfl, ((OutB.refl w).nx hW).gro hg (fun x hx => ⟨(h.lt x hx).1, hH x hx⟩)⟩

end Go.Proofs.Ytdchfiiaollheaa
