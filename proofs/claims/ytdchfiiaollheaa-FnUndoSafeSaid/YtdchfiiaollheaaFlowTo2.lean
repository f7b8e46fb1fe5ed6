/- Steps, flows and runs copied: what the copies hold, and that all of it is the call's own. -/
import Derived.Test.YtdchfiiaollheaaFlowTo
namespace Go.Proofs.Ytdchfiiaollheaa
open Go.RowKit

abbrev rawZ : RawP := ⟨ByteArray.empty, none, 0, 0, false⟩
theorem step_info : (Try.prog.info? 30).map (fun i => (i.zero, i.size, i.bytes)) = some (some (.agg #[.string ByteArray.empty, .slice none 0 0, .bool false]), 3, 48) := by kernel_rfl
theorem flat_set3 {α : Type} {enc : α → List Value} {f g h : α → Value} (henc : ∀ a, enc a = [f a, g a, h a]) (a : α) : ∀ (l : List α) (i : Nat), ((((l.flatMap enc).set (i * 3) (f a)).set (i * 3 + 1) (g a)).set (i * 3 + 2) (h a)) = (l.set i a).flatMap enc
  | [], i => by simp
  | x :: l, 0 => by simp [henc]
  | x :: l, i + 1 => by
    have ih := flat_set3 henc a l i
    rw [List.set_cons_succ, List.flatMap_cons, List.flatMap_cons, ← ih, show (i + 1) * 3 = i * 3 + 1 + 1 + 1 by omega]
    simp [henc]
theorem own_setP {w : World} {B : Nat} {e : TypeId} {g n c : Nat} {m : List RawP} (h : w.ownsRow B e 3 (.slice (some ⟨g, 0, none⟩) n c) n (m.flatMap encP)) (p : Nat) (r : RawP) :
    (((w.setCell ⟨g, p * 3, none⟩ (.string r.name)).setCell ⟨g, p * 3 + 1, none⟩ (.slice r.A r.n r.c)).setCell ⟨g, p * 3 + 2, none⟩ (.bool r.undo)).ownsRow B e 3 (.slice (some ⟨g, 0, none⟩) n c) n ((m.set p r).flatMap encP) := by
  have h1 := (h.stored (p * 3) (.string r.name)).1
  have h2 := (h1.stored (p * 3 + 1) (.slice r.A r.n r.c)).1
  have h3 := (h2.stored (p * 3 + 2) (.bool r.undo)).1
  rw [flat_set3 (enc := encP) (f := fun r => .string r.name) (g := fun r => .slice r.A r.n r.c) (h := fun r => .bool r.undo) (fun _ => rfl) r m p] at h3
  exact h3
/-- Rows of different elements do not lie in one block. -/
theorem own_ne_own {w : World} {B : Nat} {e1 e2 : TypeId} {s1 s2 n1 n2 : Nat} {v1 v2 : Value} {x1 x2 : List Value} (h1 : w.ownsRow B e1 s1 v1 n1 x1) (h2 : w.ownsRow B e2 s2 v2 n2 x2) (hne : e1 ≠ e2) : v1.ownBlock = none ∨ v1.ownBlock ≠ v2.ownBlock := by
  rcases h1.2 with ⟨h0, _⟩ | ⟨g, cap, cur, hv, _, hh, _⟩
  · subst h0; exact .inl rfl
  · subst hv
    refine .inr fun he => ?_
    exact own_ne_blk h2 (show Blk w g e1 cur from hh) hne.symm (he.symm.trans rfl)

/-- A step of the call's own. -/
def OwnS (w : World) (B : Nat) (r : RawP) (s : Stp) : Prop := r.name = s.name ∧ r.undo = s.undo ∧ w.ownsRow B 9 1 (.slice r.A r.n r.c) r.n (s.after.map Value.string)
/-- The first k lists lie in blocks of their own. -/
def Dis (raw : List RawP) (k : Nat) : Prop := ∀ (i j : Nat) (r s : RawP), i < j → j < k → raw[i]? = some r → raw[j]? = some s → ∀ b, (Value.slice r.A r.n r.c).ownBlock = some b → (Value.slice s.A s.n s.c).ownBlock ≠ some b
/-- Steps of the call's own. -/
def OwnP (w : World) (B : Nat) (A : Option Addr) (n c : Nat) (l : List Stp) : Prop :=
  ∃ raw : List RawP, w.ownsRow B 30 3 (.slice A n c) n (raw.flatMap encP) ∧ raw.length = n ∧ l.length = n ∧ (∀ (i : Nat) (r : RawP) (s : Stp), raw[i]? = some r → l[i]? = some s → OwnS w B r s) ∧ Dis raw raw.length
theorem OwnS.kept {w w' : World} {B : Nat} {r : RawP} {s : Stp} {row : Option Nat} (h : OwnS w B r s) (hg : w.grownBy w' row) (hne : (Value.slice r.A r.n r.c).ownBlock = none ∨ (Value.slice r.A r.n r.c).ownBlock ≠ row) : OwnS w' B r s := ⟨h.1, h.2.1, h.2.2.kept hg hne⟩
theorem OwnP.bel {w w' : World} {B : Nat} {A : Option Addr} {n c : Nat} {l : List Stp} (h : OwnP w B A n c l) (hb : Below w.heap.size w w') : OwnP w' B A n c l := by
  obtain ⟨raw, h1, h2, h3, h4, h5⟩ := h
  exact ⟨raw, own_bel h1 hb, h2, h3, fun i r s hr hs => ⟨(h4 i r s hr hs).1, (h4 i r s hr hs).2.1, own_bel (h4 i r s hr hs).2.2 hb⟩, h5⟩
theorem OwnP.base {w : World} {B B' : Nat} {A : Option Addr} {n c : Nat} {l : List Stp} (h : OwnP w B A n c l) (hB : B' ≤ B) : OwnP w B' A n c l := by
  obtain ⟨raw, h1, h2, h3, h4, h5⟩ := h
  exact ⟨raw, ownsRow_base h1 hB, h2, h3, fun i r s hr hs => ⟨(h4 i r s hr hs).1, (h4 i r s hr hs).2.1, ownsRow_base (h4 i r s hr hs).2.2 hB⟩, h5⟩
theorem OwnP.al {w : World} {B : Nat} {A : Option Addr} {n c : Nat} {l : List Stp} (h : OwnP w B A n c l) (o : Obj) : OwnP (w.alloc o) B A n c l := by
  obtain ⟨raw, h1, h2, h3, h4, h5⟩ := h
  exact ⟨raw, h1.alloc o, h2, h3, fun i r s hr hs => ⟨(h4 i r s hr hs).1, (h4 i r s hr hs).2.1, (h4 i r s hr hs).2.2.alloc o⟩, h5⟩
theorem OwnP.dr {w : World} {B : Nat} {A : Option Addr} {n c : Nat} {l : List Stp} (h : OwnP w B A n c l) : OwnP w.drew B A n c l := h
theorem OwnP.gr {w w' : World} {B R : Nat} {A : Option Addr} {n c : Nat} {l : List Stp} (h : OwnP w B A n c l) (hg : w.grownBy w' (some R)) (hR : R < B) : OwnP w' B A n c l := by
  obtain ⟨raw, h1, h2, h3, h4, h5⟩ := h
  exact ⟨raw, own_gr h1 hg hR, h2, h3, fun i r s hr hs => ⟨(h4 i r s hr hs).1, (h4 i r s hr hs).2.1, own_gr (h4 i r s hr hs).2.2 hg hR⟩, h5⟩
theorem OwnP.read {w : World} {B : Nat} {A : Option Addr} {n c : Nat} {l : List Stp} (h : OwnP w B A n c l) : SlP w A n c l := by
  obtain ⟨raw, h1, h2, h3, h4, h5⟩ := h
  refine ⟨raw, Sl.of_own (fun _ => rfl) h1 h2, h3, fun i r s hr hs => ?_⟩
  obtain ⟨e1, e2, e3⟩ := h4 i r s hr hs
  exact ⟨e1, e2, SlS.of_own e3⟩

set_option maxRecDepth 20000 in
set_option maxHeartbeats 1000000 in
theorem toStep_c (nm : ByteArray) (B : Option Addr) (m d : Nat) (u : Bool) (af : List ByteArray) (w : World) (haf : SlS w B m d af) (hm : m ≤ 1048576) : Calls Try.prog 89 #[.agg #[.string nm, .slice B m d, .bool u]] w fun e w' =>
    ∃ D dc, e = .returned (.agg #[.string nm, .slice D m dc, .bool u]) ∧ w'.ownsRow w.heap.size 9 1 (.slice D m dc) m (af.map Value.string) ∧ Below w.heap.size w w' := by
  have k1 := ((Blk.new w 98 #[.string nm, .slice B m d, .bool u]).al (.cells #[.string ⟨#[]⟩, .slice none 0 0, .bool false] 30)).al (.cells #[.string nm, .slice none 0 0, .bool false] 30)
  have k2 := (Blk.new (w.alloc (.cells #[.string nm, .slice B m d, .bool u] 98)) 30 #[.string ⟨#[]⟩, .slice none 0 0, .bool false]).al (.cells #[.string nm, .slice none 0 0, .bool false] 30)
  have k3 := Blk.new ((w.alloc (.cells #[.string nm, .slice B m d, .bool u] 98)).alloc (.cells #[.string ⟨#[]⟩, .slice none 0 0, .bool false] 30)) 30 #[.string nm, .slice none 0 0, .bool false]
  have hW := bel_al (bel_al (bel_al (bel_refl w) (.cells #[.string nm, .slice B m d, .bool u] 98)) (.cells #[.string ⟨#[]⟩, .slice none 0 0, .bool false] 30)) (.cells #[.string nm, .slice none 0 0, .bool false] 30)
  have ha := ((haf.al (.cells #[.string nm, .slice B m d, .bool u] 98)).al (.cells #[.string ⟨#[]⟩, .slice none 0 0, .bool false] 30)).al (.cells #[.string nm, .slice none 0 0, .bool false] 30)
  go_enter Try.func89, Try.ntmps89
  go_wp2_with fail
  obtain ⟨W, hWW⟩ : ∃ W, W = (((w.alloc (.cells #[.string nm, .slice B m d, .bool u] 98)).alloc (.cells #[.string ⟨#[]⟩, .slice none 0 0, .bool false] 30)).alloc (.cells #[.string nm, .slice none 0 0, .bool false] 30)) := ⟨_, rfl⟩
  rw [← hWW] at k1 k2 k3 hW ha ⊢
  have hsz : w.heap.size + 2 < W.heap.size := by rw [hWW]; simp
  simp only [World.alloc, Array.size_push] at k2 k3
  clear hWW
  refine (toStringS_c B m d af W ha hm).mono ?_
  rintro e w1 ⟨D, dc, rfl, hD, hb1⟩
  have k1 := k1.bel hb1
  have k2 := k2.bel hb1
  have k3 := k3.bel hb1
  have hW := bel_nx hW hb1
  have c1 := k1.cell
  have c2 := k2.cell
  have c3 := k3.cell
  have f2 := k2.frozen
  have f3 := k3.frozen
  go_wp2_with fail
  have K3 := (k3.set_ 1 (.slice D m dc)).set_ 2 (.bool u)
  have K2 := (((k2.far (p := ⟨w.heap.size + 1 + 1, 1, none⟩) (by simp) (.slice D m dc)).far (p := ⟨w.heap.size + 1 + 1, 2, none⟩) (by simp) (.bool u)).set_ 0 (.string nm)).set_ 1 (.slice D m dc)
  have K2' := K2.set_ 2 (.bool u)
  have cz := K2'.cell
  have hD2 := hD
  have hkeep : ∀ (W0 : World) (b i : Nat) (x : Value), W0.ownsRow W.heap.size 9 1 (.slice D m dc) m (af.map Value.string) → b < W.heap.size → (W0.setCell ⟨b, i, none⟩ x).ownsRow W.heap.size 9 1 (.slice D m dc) m (af.map Value.string) := fun W0 b i x h hb => own_gr h (gr_cell W0 b i x) hb
  refine bodyPost_ret (v := .agg #[.string nm, .slice D m dc, .bool u]) (by simp [results, Try.results89, go_sem, cz]) rfl ⟨D, dc, rfl, ?_, ?_⟩
  · exact ownsRow_base (hkeep _ _ _ _ (hkeep _ _ _ _ (hkeep _ _ _ _ (hkeep _ _ _ _ (hkeep _ _ _ _ hD (by omega)) (by omega)) (by omega)) (by omega)) (by omega)) (by omega)
  · exact bel_set (bel_set (bel_set (bel_set (bel_set hW (by simp; omega) _) (by simp; omega) _) (by simp) _) (by simp) _) (by simp) _

theorem OwnS.bel {w w' : World} {B : Nat} {r : RawP} {s : Stp} (h : OwnS w B r s) (hb : Below w.heap.size w w') : OwnS w' B r s := ⟨h.1, h.2.1, own_bel h.2.2 hb⟩

set_option maxRecDepth 20000 in
set_option maxHeartbeats 2000000 in
theorem toStepS_c (A : Option Addr) (n c : Nat) (l : List Stp) (w : World) (h : SlP w A n c l) (hn : n ≤ 1048576) (hsh : ShortP l 1048576) : Calls Try.prog 61 #[.slice A n c] w fun e w' =>
    ∃ A' c', e = .returned (.slice A' n c') ∧ OwnP w' w.heap.size A' n c' l ∧ Below w.heap.size w w' := by
  obtain ⟨i0, hi0, hz0, hz1, hz2⟩ := info_parts step_info
  have hlen := h.len
  have hmax := h.max
  have hcap := h.cap
  have HL := Lib.hid hlen
  clear hlen
  go_enter Try.func61, Try.ntmps61
  go_wp2_with (at_make; refine wpList_make_full _ rfl _ _ 23 rfl w.heap.size 30 i0 (.agg #[.string ByteArray.empty, .slice none 0 0, .bool false]) 3 Try.underlying23 hi0 hz0 hz1 .i64 .i64 n n n rfl rfl rfl rfl (by rw [hz2]; omega) (by unfold maxLen; omega) (Nat.le_refl _) ?_; intro w1 hown hgrow)
  go_loopw [4] (fun i wr => ∃ (k : Nat) (raw : List RawP), k ≤ n ∧ i = .int .i64 (k : Int) ∧ Hid (raw.length = n) ∧ wr.ownsRow w.heap.size 30 3 (.slice (some ⟨w.heap.size, 0, none⟩) n n) n (raw.flatMap encP) ∧ Hid (∀ (i : Nat) (r : RawP) (s : Stp), i < k → raw[i]? = some r → l[i]? = some s → OwnS wr w.heap.size r s) ∧ Hid (Dis raw k) ∧ Below w.heap.size w wr) (fun i _ => n - (intOf i).toNat)
  case atStart =>
    refine ⟨0, List.replicate n rawZ, Nat.zero_le _, rfl, Lib.hid (by simp), ?_, Lib.hid (fun i r s hi => by omega), Lib.hid (fun i j r s hij hj => by omega), (Below.refl _ _).grown hgrow (Nat.le_refl _) (fun _ h => by cases h)⟩
    rw [← made_flat (enc := encP) (k := 3) (fun _ => rfl) (by omega)]
    exact hown
  case round =>
    obtain ⟨k, raw, hk, rfl, HRL, hown, HO, HDI, hbr⟩ := hrel
    by_cases hlt : k < n
    · obtain ⟨b, off, t, B, m, d, af, u, rfl, hx, hc0, hc1, hc2, haf⟩ := SlP.get (h.bel hbr) hlt
      have hm : m ≤ 1048576 := by rw [← haf.len]; exact hsh _ (List.mem_of_getElem? hx)
      have HX := Lib.hid hx
      clear hx
      have hsz := hbr.size
      go_wp2_with fail
      refine (toStep_c t B m d u af wr haf hm).mono ?_
      rintro e w2 ⟨D, dc, rfl, hD, hb2⟩
      have hown2 := own_bel hown hb2
      have hbr2 := bel_nx hbr hb2
      obtain ⟨⟨v0, hco0⟩, hcf0⟩ := own_at hown2 (j := k * 3) (by omega)
      obtain ⟨⟨v1, hco1⟩, hcf1⟩ := own_at hown2 (j := k * 3 + 1) (by omega)
      obtain ⟨⟨v2, hco2⟩, hcf2⟩ := own_at hown2 (j := k * 3 + 2) (by omega)
      go_wp2_with fail
      go_roundw
      case rel =>
        have hg : w2.grownBy (((w2.setCell ⟨w.heap.size, k * 3, none⟩ (.string t)).setCell ⟨w.heap.size, k * 3 + 1, none⟩ (.slice D m dc)).setCell ⟨w.heap.size, k * 3 + 2, none⟩ (.bool u)) (some w.heap.size) := gr_at (gr_at (gr_at (World.grownBy.refl w2 _) _ _) _ _) _ _
        have hD2 : w2.ownsRow w.heap.size 9 1 (.slice D m dc) m (af.map Value.string) := ownsRow_base hD hsz
        refine ⟨k + 1, raw.set k ⟨t, D, m, dc, u⟩, by omega, by go_num, Lib.hid (by rw [List.length_set]; exact HRL.out), own_setP hown2 k ⟨t, D, m, dc, u⟩, Lib.hid (fun i r s hi hr hs => ?_), Lib.hid (fun i j r s hij hj hr hs b hb => ?_), ((hbr2.setCell (Nat.le_refl _) _).setCell (Nat.le_refl _) _).setCell (Nat.le_refl _) _⟩
        by_cases hik : i = k
        · subst hik
          rw [HX.out] at hs
          cases hs
          rw [List.getElem?_set_self (by rw [HRL.out]; omega)] at hr
          cases hr
          exact ⟨rfl, rfl, hD2.kept hg (own_ne_own hD2 hown2 (by decide))⟩
        · rw [List.getElem?_set_ne (fun e => hik e.symm)] at hr
          have hold := (HO.out i r s (by omega) hr hs).bel hb2
          exact hold.kept hg (own_ne_own hold.2.2 hown2 (by decide))
        · rw [List.getElem?_set_ne (by omega)] at hr
          by_cases hjk : j = k
          · subst hjk
            rw [List.getElem?_set_self (by rw [HRL.out]; omega)] at hs
            cases hs
            obtain ⟨si, hsi⟩ : ∃ si, l[i]? = some si := ⟨_, List.getElem?_eq_getElem (by rw [HL.out]; omega)⟩
            have hlo := ((HO.out i r si (by omega) hr hsi).2.2.lt b hb).2
            intro he
            have hhi := (hD.lt b he).1
            omega
          · rw [List.getElem?_set_ne (fun e => hjk e.symm)] at hs
            exact HDI.out i j r s hij (by omega) hr hs b hb
      case measure => simp [intOf]; omega
    · go_wp2_with fail
      go_ret
      have hkn : k = n := by omega
      exact ⟨_, _, rfl, ⟨raw, hown, HRL.out, HL.out, fun i r s hr hs => HO.out i r s (by have := (List.getElem?_eq_some_iff.1 hs).1; rw [HL.out] at this; omega) hr hs, by have hd := HDI.out; rw [hkn, ← HRL.out] at hd; exact hd⟩, hbr⟩

set_option maxRecDepth 20000 in
set_option maxHeartbeats 1000000 in
theorem toFlow_c (v : Int) (A : Option Addr) (n c : Nat) (l : List Stp) (w : World) (h : SlP w A n c l) (hn : n ≤ 1048576) (hsh : ShortP l 1048576) : Calls Try.prog 20 #[.agg #[.int .i64 v, .slice A n c]] w fun e w' =>
    ∃ D dc, e = .returned (.agg #[.int .i64 v, .slice D n dc]) ∧ OwnP w' w.heap.size D n dc l ∧ Below w.heap.size w w' := by
  have k1 := ((Blk.new w 34 #[.int .i64 v, .slice A n c]).al (.cells #[.int .i64 0, .slice none 0 0] 25)).al (.cells #[.int .i64 v, .slice none 0 0] 25)
  have k2 := (Blk.new (w.alloc (.cells #[.int .i64 v, .slice A n c] 34)) 25 #[.int .i64 0, .slice none 0 0]).al (.cells #[.int .i64 v, .slice none 0 0] 25)
  have k3 := Blk.new ((w.alloc (.cells #[.int .i64 v, .slice A n c] 34)).alloc (.cells #[.int .i64 0, .slice none 0 0] 25)) 25 #[.int .i64 v, .slice none 0 0]
  have hW := bel_al (bel_al (bel_al (bel_refl w) (.cells #[.int .i64 v, .slice A n c] 34)) (.cells #[.int .i64 0, .slice none 0 0] 25)) (.cells #[.int .i64 v, .slice none 0 0] 25)
  have ha := ((h.al (.cells #[.int .i64 v, .slice A n c] 34)).al (.cells #[.int .i64 0, .slice none 0 0] 25)).al (.cells #[.int .i64 v, .slice none 0 0] 25)
  go_enter Try.func20, Try.ntmps20
  go_wp2_with fail
  obtain ⟨W, hWW⟩ : ∃ W, W = (((w.alloc (.cells #[.int .i64 v, .slice A n c] 34)).alloc (.cells #[.int .i64 0, .slice none 0 0] 25)).alloc (.cells #[.int .i64 v, .slice none 0 0] 25)) := ⟨_, rfl⟩
  rw [← hWW] at k1 k2 k3 hW ha ⊢
  have hsz : w.heap.size + 2 < W.heap.size := by rw [hWW]; simp
  simp only [World.alloc, Array.size_push] at k2 k3
  clear hWW
  refine (toStepS_c A n c l W ha hn hsh).mono ?_
  rintro e w1 ⟨D, dc, rfl, hD, hb1⟩
  have k1 := k1.bel hb1
  have k2 := k2.bel hb1
  have k3 := k3.bel hb1
  have hW := bel_nx hW hb1
  have c1 := k1.cell
  have c2 := k2.cell
  have c3 := k3.cell
  have f2 := k2.frozen
  have f3 := k3.frozen
  go_wp2_with fail
  have K3 := k3.set_ 1 (.slice D n dc)
  have K2 := ((k2.far (p := ⟨w.heap.size + 1 + 1, 1, none⟩) (by simp) (.slice D n dc)).set_ 0 (.int .i64 v)).set_ 1 (.slice D n dc)
  have cz := K2.cell
  have hkeep : ∀ (W0 : World) (b i : Nat) (x : Value), OwnP W0 W.heap.size D n dc l → b < W.heap.size → OwnP (W0.setCell ⟨b, i, none⟩ x) W.heap.size D n dc l := fun W0 b i x h hb => h.gr (gr_cell W0 b i x) hb
  refine bodyPost_ret (v := .agg #[.int .i64 v, .slice D n dc]) (by simp [results, Try.results20, go_sem, cz]) rfl ⟨D, dc, rfl, ?_, ?_⟩
  · exact (hkeep _ _ _ _ (hkeep _ _ _ _ (hkeep _ _ _ _ hD (by omega)) (by omega)) (by omega)).base (by omega)
  · exact bel_set (bel_set (bel_set hW (by simp; omega) _) (by simp) _) (by simp) _

set_option maxRecDepth 20000 in
set_option maxHeartbeats 1000000 in
theorem toRun_c (v : Int) (A : Option Addr) (n c : Nat) (l : List ByteArray) (w : World) (h : SlS w A n c l) (hn : n ≤ 1048576) : Calls Try.prog 28 #[.agg #[.int .i64 v, .slice A n c]] w fun e w' =>
    ∃ D dc, e = .returned (.agg #[.int .i64 v, .slice D n dc]) ∧ w'.ownsRow w.heap.size 9 1 (.slice D n dc) n (l.map Value.string) ∧ Below w.heap.size w w' := by
  have k1 := ((Blk.new w 46 #[.int .i64 v, .slice A n c]).al (.cells #[.int .i64 0, .slice none 0 0] 40)).al (.cells #[.int .i64 v, .slice none 0 0] 40)
  have k2 := (Blk.new (w.alloc (.cells #[.int .i64 v, .slice A n c] 46)) 40 #[.int .i64 0, .slice none 0 0]).al (.cells #[.int .i64 v, .slice none 0 0] 40)
  have k3 := Blk.new ((w.alloc (.cells #[.int .i64 v, .slice A n c] 46)).alloc (.cells #[.int .i64 0, .slice none 0 0] 40)) 40 #[.int .i64 v, .slice none 0 0]
  have hW := bel_al (bel_al (bel_al (bel_refl w) (.cells #[.int .i64 v, .slice A n c] 46)) (.cells #[.int .i64 0, .slice none 0 0] 40)) (.cells #[.int .i64 v, .slice none 0 0] 40)
  have ha := ((h.al (.cells #[.int .i64 v, .slice A n c] 46)).al (.cells #[.int .i64 0, .slice none 0 0] 40)).al (.cells #[.int .i64 v, .slice none 0 0] 40)
  go_enter Try.func28, Try.ntmps28
  go_wp2_with fail
  obtain ⟨W, hWW⟩ : ∃ W, W = (((w.alloc (.cells #[.int .i64 v, .slice A n c] 46)).alloc (.cells #[.int .i64 0, .slice none 0 0] 40)).alloc (.cells #[.int .i64 v, .slice none 0 0] 40)) := ⟨_, rfl⟩
  rw [← hWW] at k1 k2 k3 hW ha ⊢
  have hsz : w.heap.size + 2 < W.heap.size := by rw [hWW]; simp
  simp only [World.alloc, Array.size_push] at k2 k3
  clear hWW
  refine (toStringS_c A n c l W ha hn).mono ?_
  rintro e w1 ⟨D, dc, rfl, hD, hb1⟩
  have k1 := k1.bel hb1
  have k2 := k2.bel hb1
  have k3 := k3.bel hb1
  have hW := bel_nx hW hb1
  have c1 := k1.cell
  have c2 := k2.cell
  have c3 := k3.cell
  have f2 := k2.frozen
  have f3 := k3.frozen
  go_wp2_with fail
  have K3 := k3.set_ 1 (.slice D n dc)
  have K2 := ((k2.far (p := ⟨w.heap.size + 1 + 1, 1, none⟩) (by simp) (.slice D n dc)).set_ 0 (.int .i64 v)).set_ 1 (.slice D n dc)
  have cz := K2.cell
  have hkeep : ∀ (W0 : World) (b i : Nat) (x : Value), W0.ownsRow W.heap.size 9 1 (.slice D n dc) n (l.map Value.string) → b < W.heap.size → (W0.setCell ⟨b, i, none⟩ x).ownsRow W.heap.size 9 1 (.slice D n dc) n (l.map Value.string) := fun W0 b i x h hb => own_gr h (gr_cell W0 b i x) hb
  refine bodyPost_ret (v := .agg #[.int .i64 v, .slice D n dc]) (by simp [results, Try.results28, go_sem, cz]) rfl ⟨D, dc, rfl, ?_, ?_⟩
  · exact ownsRow_base (hkeep _ _ _ _ (hkeep _ _ _ _ (hkeep _ _ _ _ hD (by omega)) (by omega)) (by omega)) (by omega)
  · exact bel_set (bel_set (bel_set hW (by simp; omega) _) (by simp) _) (by simp) _

set_option maxHeartbeats 1000000 in
theorem eqStep_same (nm : ByteArray) (B : Option Addr) (m d : Nat) (B' : Option Addr) (m' d' : Nat) (u : Bool) (af : List ByteArray) (w : World) (h : SlS w B m d af) (h' : SlS w B' m' d' af) : Calls Try.prog 90 #[.agg #[.string nm, .slice B m d, .bool u], .agg #[.string nm, .slice B' m' d', .bool u]] w fun e w' => e = .returned (.bool true) ∧ Below w.heap.size w w' := by
  have hW := bel_al (bel_al (bel_refl w) (.cells #[.string nm, .slice B m d, .bool u] 30)) (.cells #[.string nm, .slice B' m' d', .bool u] 30)
  have k1 := (Blk.new w 30 #[.string nm, .slice B m d, .bool u]).al (.cells #[.string nm, .slice B' m' d', .bool u] 30)
  have k2 := Blk.new (w.alloc (.cells #[.string nm, .slice B m d, .bool u] 30)) 30 #[.string nm, .slice B' m' d', .bool u]
  simp only [World.alloc, Array.size_push] at k2
  have k2 : Blk ((w.alloc (.cells #[.string nm, .slice B m d, .bool u] 30)).alloc (.cells #[.string nm, .slice B' m' d', .bool u] 30)) (w.heap.size + 1) 30 #[.string nm, .slice B' m' d', .bool u] := k2
  have e1 : (nm.toList != nm.toList) = false := by simp
  have e2 : (u != u) = false := by cases u <;> rfl
  go_enter Try.func90, Try.ntmps90
  go_wp2_with fail
  refine (eqStringS_same B B' m d m' d' af _ (h.bel hW) (h'.bel hW)).mono ?_
  rintro e w1 ⟨rfl, hb1⟩
  have c1 := (k1.bel hb1).cell
  have c2 := (k2.bel hb1).cell
  go_wp2_with fail
  go_ret
  exact ⟨rfl, bel_nx hW hb1⟩

set_option maxHeartbeats 2000000 in
theorem eqStepS_same (A B : Option Addr) (n c n' c' : Nat) (l : List Stp) (w : World) (h : SlP w A n c l) (h' : SlP w B n' c' l) : Calls Try.prog 62 #[.slice A n c, .slice B n' c'] w fun e w' =>
    e = .returned (.bool true) ∧ Below w.heap.size w w' := by
  have hnn : n' = n := by rw [← h.len, ← h'.len]
  subst hnn
  have hcap := h.cap
  have hmax := h.max
  have hcap' := h'.cap
  have hmax' := h'.max
  go_enter Try.func62, Try.ntmps62
  go_wp2_with fail
  go_loopw [5] (fun i wr => ∃ k : Nat, k ≤ n' ∧ i = .int .i64 (k : Int) ∧ Below w.heap.size w wr) (fun i _ => n' - (intOf i).toNat)
  case atStart => exact ⟨0, Nat.zero_le _, rfl, Below.refl _ _⟩
  case round =>
    obtain ⟨k, hk, rfl, hbr⟩ := hrel
    by_cases hlt : k < n'
    · obtain ⟨b, off, t, D, m, d, af, u, hA1, hx, hc0, hc1, hc2, haf⟩ := SlP.get (h.bel hbr) hlt
      obtain ⟨b', off', t', D', m', d', af', u', hB1, hy, hd0, hd1, hd2, haf'⟩ := SlP.get (h'.bel hbr) hlt
      rw [hx] at hy
      obtain ⟨rfl, rfl, rfl⟩ : t = t' ∧ af = af' ∧ u = u' := by simpa using hy
      subst hA1 hB1
      clear hx hy
      have k0 : (0 : Int) ≤ (k : Int) := by omega
      have k1 : (k : Int) < (n' : Int) := by omega
      go_wp2_with fail
      go_region_held3 (fun w' => w'.cell? ⟨b, off + k * 3, none⟩ = some (.string t) ∧ w'.cell? ⟨b, off + k * 3 + 1, none⟩ = some (.slice D m d) ∧ w'.cell? ⟨b, off + k * 3 + 2, none⟩ = some (.bool u) ∧ w'.cell? ⟨b', off' + k * 3, none⟩ = some (.string t) ∧ w'.cell? ⟨b', off' + k * 3 + 1, none⟩ = some (.slice D' m' d') ∧ w'.cell? ⟨b', off' + k * 3 + 2, none⟩ = some (.bool u))
        (first | go_keep | exact ⟨hc0, hc1, hc2, hd0, hd1, hd2⟩ | exact ⟨cell_later hb2 hc0, cell_later hb2 hc1, cell_later hb2 hc2, cell_later hb2 hd0, cell_later hb2 hd1, cell_later hb2 hd2⟩)
        ((first | (go_at_call 90; refine (eqStep_same t D m d D' m' d' u af _ haf.dr haf'.dr).mono ?_; rintro e w2 ⟨rfl, hb2⟩)))
      go_wp2_with fail
      go_roundw
      case rel => exact ⟨k + 1, by omega, by go_num, by (repeat' first | assumption | exact bel_refl _ | refine bel_al ?_ _ | refine bel_dr ?_ | refine bel_drN ?_ _ | refine bel_nx ?_ (by assumption) | (refine bel_set ?_ (by first | omega | (simp; omega)) _))⟩
      case measure => simp [intOf]; omega
    · go_wp2_with fail
      go_ret
      exact ⟨rfl, hbr⟩

theorem eqFlow_same (v : Int) (A B : Option Addr) (n c n' c' : Nat) (l : List Stp) (w : World) (h : SlP w A n c l) (h' : SlP w B n' c' l) : Calls Try.prog 21 #[.agg #[.int .i64 v, .slice A n c], .agg #[.int .i64 v, .slice B n' c']] w fun e w' =>
    e = .returned (.bool true) ∧ Below w.heap.size w w' := by
  have hW := bel_al (bel_al (bel_refl w) (.cells #[.int .i64 v, .slice A n c] 25)) (.cells #[.int .i64 v, .slice B n' c'] 25)
  have e2 : (v != v) = false := by simp
  go_enter Try.func21, Try.ntmps21
  go_wp2_with fail
  refine (eqStepS_same A B n c n' c' l _ (h.bel hW) (h'.bel hW)).mono ?_
  rintro e w1 ⟨rfl, hb1⟩
  go_wp2_with fail
  go_ret
  exact ⟨rfl, bel_nx hW hb1⟩
theorem eqRun_same (v : Int) (A B : Option Addr) (n c n' c' : Nat) (l : List ByteArray) (w : World) (h : SlS w A n c l) (h' : SlS w B n' c' l) : Calls Try.prog 29 #[.agg #[.int .i64 v, .slice A n c], .agg #[.int .i64 v, .slice B n' c']] w fun e w' =>
    e = .returned (.bool true) ∧ Below w.heap.size w w' := by
  have hW := bel_al (bel_al (bel_refl w) (.cells #[.int .i64 v, .slice A n c] 40)) (.cells #[.int .i64 v, .slice B n' c'] 40)
  have e2 : (v != v) = false := by simp
  go_enter Try.func29, Try.ntmps29
  go_wp2_with fail
  refine (eqStringS_same A B n c n' c' l _ (h.bel hW) (h'.bel hW)).mono ?_
  rintro e w1 ⟨rfl, hb1⟩
  go_wp2_with fail
  go_ret
  exact ⟨rfl, bel_nx hW hb1⟩

end Go.Proofs.Ytdchfiiaollheaa
