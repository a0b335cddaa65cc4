/- alike; a log of the program and one of the document, apart from each other. Conditions: both are in order. -/
import Derived.Test.YtpnmodkddiljeaaRstore
namespace Go.Proofs.Ytpnmodkddiljeaa
open Go.RowKit Go.Proofs.YtpnmodkddiljeaaW.PrintWords Go.Proofs.YtpnmodkddiljeaaW.PrintLast PEntryPlays

theorem rsame_calls (l : List S31) {w : World} {A B : Option Addr} {c d : Nat} (ha : Kd.C k31 w A l.length l) (hc : l.length ≤ c) (hb : Kd.C k31 w B l.length l) (hd : l.length ≤ d) (hl : l.length ≤ 4096) (h7 : ∀ e, e ∈ l → e.f4.length ≤ 4096) :
    Calls Try.prog 20 #[.slice A l.length c, .slice B l.length d] w fun e w' => e = .returned (.bool true) ∧ Below w.heap.size w w' := by
  obtain ⟨k, hk⟩ := (sameEntries_refl l (by omega) (fun e he => by have := h7 e he; omega)).rounds
  exact codicilref23_SameEntries.calls k A c l B d l true w ha hc hb hd hk
theorem rsameConf_calls (l : List Int) {w : World} {v u : Value} {oka okb : Nat → Prop} (ha : RV (Kd.int .i64) w oka v l) (hb : RV (Kd.int .i64) w okb u l) (hl : l.length ≤ 9223372036854775806) :
    Calls Try.prog 29 #[v, u] w fun e w' => e = .returned (.bool true) ∧ Below w.heap.size w w' := by
  obtain ⟨A, c, rfl, h1, h2⟩ := ha
  obtain ⟨B, d, rfl, h3, h4⟩ := hb
  obtain ⟨k, hk⟩ := (same_refl l hl).rounds
  exact (codicilref24_Same.calls k A c l B d l true w (Kd.F_now h2) h1 (Kd.F_now h4) h3 hk).mono fun _ _ h => ⟨h.1, h.2.below⟩

set_option maxHeartbeats 4000000 in
set_option maxRecDepth 100000 in
theorem alike_any {g g2 : Nat} {w : World} {ok ok2 : Nat → Prop} {lv lv2 : Value} {st : LS} (h : IsL 70 g w ok lv st) (h2 : IsL 76 g2 w ok2 lv2 st) (hok : LSok st) :
    Calls Try.prog 23 #[.pointer (some ⟨g, 0, none⟩), .pointer (some ⟨g2, 0, none⟩)] w fun e w' => e = .returned (.bool true) ∧ Below w.heap.size w w' := by
  have hlen := hok.len
  have hi0 := hok.i0
  have hi1 := hok.i1
  have H := Lib.hid h
  have H2 := Lib.hid h2
  have HO := Lib.hid hok
  obtain ⟨A2, c2, rfl, hlc2⟩ := G_slice h2.l
  clear h h2 hok
  go_enter Try.func23, Try.ntmps23
  go_wp2_with fail
  refine (base_any H.out).mono ?_
  rintro e w1 ⟨rfl, hb⟩
  have HB1 := Lib.hid hb
  clear hb
  go_wp2_with fail
  refine (last_any (H.out.below HB1.out) hlen).mono ?_
  rintro e w2 ⟨rfl, hb⟩
  have HB2 := Lib.hid (below_then HB1.out HB1.out.size hb)
  clear hb HB1
  go_wp2_with fail
  refine (rlast_any (H2.out.below HB2.out) hlen).mono ?_
  rintro e w3 ⟨rfl, hb⟩
  have HB3 := Lib.hid (below_then HB2.out HB2.out.size hb)
  clear hb HB2
  go_wp2_with fail
  refine (conf_any (H.out.below HB3.out) HO.out).mono ?_
  rintro e w4 ⟨vp, rfl, hp, hb⟩
  have HP := Lib.hid (RV_of_G hp)
  obtain ⟨Ap, cp, rfl, _⟩ := G_slice hp
  have HB4 := Lib.hid (below_then HB3.out HB3.out.size hb)
  clear hb HB3 hp
  go_wp2_with fail
  refine (rconf_any (H2.out.below HB4.out) hlen _).mono ?_
  rintro e w5 ⟨vs, rfl, hs, hb⟩
  have HS := Lib.hid hs
  have HP5 := Lib.hid (RV_below HP.out hb)
  obtain ⟨As, cs, rfl, _, _⟩ := hs
  have HB5 := Lib.hid (below_then HB4.out HB4.out.size hb)
  clear hb HB4 HP
  obtain ⟨⟨_, hb2, _⟩, _⟩ := H2.out.below HB5.out
  have c0 := blk_cell hb2 0
  have c1 := blk_cell hb2 1
  simp only [List.getElem?_toArray, List.getElem?_cons_succ, List.getElem?_cons_zero] at c0 c1
  clear hb2
  go_wp2_with fail
  have hsl := (confB_len (says_conf HO.out st.last.1)).2
  refine (rsameConf_calls _ HP5.out HS.out (by omega)).mono ?_
  clear c0 c1 hsl
  rintro e w6 ⟨rfl, hb⟩
  have HB6 := Lib.hid (below_then HB5.out HB5.out.size hb)
  clear hb HB5 HP5 HS
  go_wp2_with fail
  go_loopw [15] (fun v wr => ∃ j : Nat, j ≤ st.l.length + 3 ∧ v = .int .u64 j ∧ Below w.heap.size w wr) (fun v _ => st.l.length + 3 - (intOf v).toNat)
  case atStart => exact ⟨0, by omega, rfl, HB6.out⟩
  case round =>
    obtain ⟨j, hj, rfl, hB⟩ := hrel
    have HB := Lib.hid hB
    have q1 : IntKind.u64.wrap (st.l.length : Int) = st.l.length := IntWalk.u64_in _ (by omega)
    have q2 : IntKind.u64.wrap ((st.l.length : Int) + 2) = (st.l.length : Int) + 2 := IntWalk.u64_in _ (by omega)
    have q3 : IntKind.u64.wrap ((j : Int) + 1) = (j + 1 : Nat) := (IntWalk.u64_in _ (by omega)).trans (by omega)
    have q4 : IntKind.u64.wrap (st.index + (j : Int)) = st.index + j := IntWalk.u64_in _ (by omega)
    obtain ⟨⟨_, hb2, _⟩, _⟩ := H2.out.below hB
    have c0 := blk_cell hb2 0
    have c3 := blk_cell hb2 3
    simp only [List.getElem?_toArray, List.getElem?_cons_succ, List.getElem?_cons_zero] at c0 c3
    clear hb2 hB HB6
    by_cases hlt : j ≤ st.l.length + 2
    · have p1 : (j : Int) ≤ (st.l.length : Int) + 2 := by omega
      by_cases h0 : st.index = 0 ∧ j = 0
      · have e1 : (st.index == 0) = true := by simpa using h0.1
        have e2 : ((j : Int) == 0) = true := by simpa using h0.2
        clear h0
        go_wp2_with fail
        exact ⟨⟨j + 1, by omega, by simp, HB.out⟩, by simp [intOf]; omega⟩
      have e12 : (st.index == 0) = false ∨ (st.index == 0) = true ∧ ((j : Int) == 0) = false := by
        by_cases hz : st.index = 0
        · exact .inr ⟨by simpa using hz, by simp; omega⟩
        · exact .inl (by simpa using hz)
      obtain ⟨a, ha⟩ : ∃ a, st.index + (j : Int) - 1 = a := ⟨_, rfl⟩
      have q5 : IntKind.u64.wrap (st.index + (j : Int) - 1) = a := (IntWalk.u64_in _ (by omega)).trans ha
      have hca : (st.confAt a).2 = (st.termAt a).2 := by unfold LS.confAt; split; exact Eq.symm ‹_›; rfl
      have HCa := Lib.hid hca
      clear ha h0 hca
      rcases e12 with e1 | ⟨e1, e2⟩
      all_goals
        go_wp2_with fail
        refine (term_any (H.out.below HB.out) HO.out a).mono ?_
        rintro e x1 ⟨rfl, hb⟩
        have HB1 := Lib.hid (below_then HB.out HB.out.size hb)
        clear hb c0 c3 HB
        go_wp2_with fail
        refine (rterm_any (H2.out.below HB1.out) HO.out a).mono ?_
        rintro e x2 ⟨rfl, hb⟩
        have HB2 := Lib.hid (below_then HB1.out HB1.out.size hb)
        clear hb HB1
        go_wp2_with fail
        refine (confAt_any (H.out.below HB2.out) HO.out a).mono ?_
        rw [HCa.out]
        rintro e x3 ⟨vm, rfl, hm, hb⟩
        have HM := Lib.hid (RV_of_G hm)
        obtain ⟨Am, cm, rfl, _⟩ := G_slice hm
        have HB3 := Lib.hid (below_then HB2.out HB2.out.size hb)
        clear hb HB2 hm
        go_wp2_with fail
        refine (hint_any (H.out.below HB3.out) HO.out a).mono ?_
        rintro e x4 ⟨rfl, hb⟩
        have HB4 := Lib.hid (below_then HB3.out HB3.out.size hb)
        have HM4 := Lib.hid (RV_below HM.out hb)
        clear hb HB3 HM
        go_wp2_with fail
        refine (rhint_any (H2.out.below HB4.out) HO.out a).mono ?_
        rintro e x5 ⟨rfl, hb⟩
        have HB5 := Lib.hid (below_then HB4.out HB4.out.size hb)
        have HM5 := Lib.hid (RV_below HM4.out hb)
        clear hb HB4 HM4
        go_wp2_with fail
        refine (fits_any (H.out.below HB5.out) HO.out a _).mono ?_
        rintro e x6 ⟨rfl, hb⟩
        have HB6 := Lib.hid (below_then HB5.out HB5.out.size hb)
        have HM6 := Lib.hid (RV_below HM5.out hb)
        clear hb HB5 HM5
        go_wp2_with fail
        refine (rfits_any (H2.out.below HB6.out) HO.out a _).mono ?_
        rintro e x7 ⟨rfl, hb⟩
        have HB7 := Lib.hid (below_then HB6.out HB6.out.size hb)
        have HM7 := Lib.hid (RV_below HM6.out hb)
        clear hb HB6 HM6
        go_wp2_with fail
        refine (fits_any (H.out.below HB7.out) HO.out a _).mono ?_
        rintro e x8 ⟨rfl, hb⟩
        have HB8 := Lib.hid (below_then HB7.out HB7.out.size hb)
        have HM8 := Lib.hid (RV_below HM7.out hb)
        clear hb HB7 HM7
        go_wp2_with fail
        refine (rfits_any (H2.out.below HB8.out) HO.out a _).mono ?_
        rintro e x9 ⟨rfl, hb⟩
        have HB9 := Lib.hid (below_then HB8.out HB8.out.size hb)
        have HM9 := Lib.hid (RV_below HM8.out hb)
        clear hb HB8 HM8
        by_cases hf : (st.termAt a).2 = 0
        · have hf' : ((st.termAt a).2 == 0) = true := by simpa using hf
          have HCf := Lib.hid (show (st.confAt a).1 = (st.says a).1 by unfold LS.confAt; rw [if_pos hf])
          clear hf
          go_wp2_with fail
          refine (rconf_any (H2.out.below HB9.out) hlen a).mono ?_
          rintro e x10 ⟨vn, rfl, hn, hb⟩
          have HB10 := Lib.hid (below_then HB9.out HB9.out.size hb)
          have HM10 := Lib.hid (RV_below HM9.out hb)
          have HN := Lib.hid hn
          obtain ⟨An, cn, rfl, _, _⟩ := hn
          clear hb HB9 HM9
          go_wp2_with fail
          have hsl := (confB_len (says_conf HO.out a)).2
          have hms : RV (Kd.int .i64) x10 (fun _ => True) (.slice Am (st.confAt a).1.length cm) (st.says a).1 := by
            have h := RV_mono HM10.out (ok' := fun _ => True) (fun _ _ => trivial)
            have e := HCf.out
            revert h e
            generalize (st.confAt a).1 = z
            rintro h rfl
            exact h
          refine (rsameConf_calls (st.says a).1 hms HN.out (by omega)).mono ?_
          clear hsl hms
          rintro e x11 ⟨rfl, hb⟩
          have HB11 := Lib.hid (below_then HB10.out HB10.out.size hb)
          clear hb HB10 HM10 HN
          go_wp2_with fail
          exact ⟨⟨j + 1, by omega, by simp, HB11.out⟩, by simp [intOf]; omega⟩
        · have hf' : ((st.termAt a).2 == 0) = false := by simpa using hf
          have hcf : (st.confAt a).1 = [] := by unfold LS.confAt; rw [if_neg hf]
          have hcl : (st.confAt a).1.length = 0 := by rw [hcf]; rfl
          clear hf hcf
          go_wp2_with fail
          exact ⟨⟨j + 1, by omega, by simp, HB9.out⟩, by simp [intOf]; omega⟩
    · have p1 : ¬ (j : Int) ≤ (st.l.length : Int) + 2 := by omega
      have q6 : IntKind.u64.wrap (st.index + 1) = st.index + 1 := IntWalk.u64_in _ (by omega)
      go_wp2_with fail
      refine (slice_any (H.out.below HB.out) HO.out (st.index + 1) 4096 (by omega)).mono ?_
      rw [rslice_all HO.out]
      rintro e y1 ⟨ve, rfl, he, hb⟩
      dsimp only at he
      have HE := Lib.hid he
      obtain ⟨Ae, ce, rfl, hle⟩ := G_slice he
      have HB1 := Lib.hid (below_then HB.out HB.out.size hb)
      clear hb he c0 c3 HB
      obtain ⟨⟨_, hb2, _⟩, hl2⟩ := H2.out.below HB1.out
      have c3 := blk_cell hb2 3
      simp only [List.getElem?_toArray, List.getElem?_cons_succ, List.getElem?_cons_zero] at c3
      have HL2 := Lib.hid hl2
      clear hb2 hl2
      go_wp2_with fail
      refine (rsame_calls st.l (G_C HE.out) hle (G_C HL2.out) hlc2 hlen (fun e he => by have := mayE_conf (HO.out.may e he); omega)).mono ?_
      rintro e y2 ⟨rfl, hb⟩
      have HB2 := Lib.hid (below_then HB1.out HB1.out.size hb)
      clear hb c3
      go_wp2_with fail
      go_ret
      exact ⟨rfl, HB2.out⟩
end Go.Proofs.Ytpnmodkddiljeaa

namespace Go.Proofs.Ytpnmodkddiljeaa
open Go.RowKit Go.Proofs.YtpnmodkddiljeaaW.PrintWords PEntryPlays Go.Shelf

/-- F, R: the blocks that the calls on the first log, on the second may write. -/
structure Duet (g g2 : Nat) (w0 w : World) (st st2 : LS) (F R : Nat → Prop) : Prop where
  ok1 : LSok st
  ok2 : LSok st2
  ge : ∀ k, F k → w0.heap.size ≤ k
  ge2 : ∀ k, R k → w0.heap.size ≤ k
  fg : F g
  fg2 : R g2
  ne : g ≠ g2
  below : Below w0.heap.size w0 w
  ex : ∃ (ok okr : Nat → Prop) (lv lv2 : Value), IsL 70 g w ok lv st ∧ IsL 76 g2 w okr lv2 st2 ∧ (∀ k, ok k → F k) ∧ (∀ k, lv2.ownBlock = some k → R k) ∧ (∀ k, ok k → ¬ okr k) ∧ ¬ ok g2 ∧ ¬ okr g
section
variable {g g2 : Nat} {w0 w w' : World} {st st2 st' : LS} {F F' R R' : Nat → Prop}
theorem Duet.down (h : Duet g g2 w0 w st st2 F R) (hb : Below w.heap.size w w') : Duet g g2 w0 w' st st2 F R := by
  obtain ⟨a1, a2, a3, a3', a4, a5, a6, a7, ok, okr, lv, lv2, b1, b2, b3, b4, b5, b6, b7⟩ := h
  exact ⟨a1, a2, a3, a3', a4, a5, a6, below_then a7 a7.size hb, ok, okr, lv, lv2, b1.below hb, b2.below hb, b3, b4, b5, b6, b7⟩
theorem Duet.wider (h : Duet g g2 w0 w st st2 F R) (hF : ∀ k, F k → F' k) (hge : ∀ k, F' k → w0.heap.size ≤ k) (hR : ∀ k, R k → R' k) (hge2 : ∀ k, R' k → w0.heap.size ≤ k) : Duet g g2 w0 w st st2 F' R' := by
  obtain ⟨a1, a2, a3, a3', a4, a5, a6, a7, ok, okr, lv, lv2, b1, b2, b3, b4, b5, b6, b7⟩ := h
  exact ⟨a1, a2, hge, hge2, hF _ a4, hR _ a5, a6, a7, ok, okr, lv, lv2, b1, b2, fun k hk => hF _ (b3 k hk), fun k hk => hR _ (b4 k hk), b5, b6, b7⟩
theorem Duet.now (h : Duet g g2 w0 w st st2 F R) : Duet g g2 w0 w st st2 (fun k => F k ∧ k < w.heap.size) (fun k => R k ∧ k < w.heap.size) := by
  obtain ⟨a1, a2, a3, a3', a4, a5, a6, a7, ok, okr, lv, lv2, b1, b2, b3, b4, b5, b6, b7⟩ := h
  exact ⟨a1, a2, fun k hk => a3 k hk.1, fun k hk => a3' k hk.1, ⟨a4, b1.lt⟩, ⟨a5, b2.lt⟩, a6, a7, _, okr, lv, lv2, b1.bound, b2, fun k hk => ⟨b3 k hk.1, hk.2⟩, fun k hk => ⟨b4 k hk, G_lt b2.l k hk⟩, fun k h1 => b5 k h1.1, fun h => b6 h.1, b7⟩
theorem Duet.left {ok okr : Nat → Prop} {lv lv2 : Value} (a2 : LSok st2) (a3 : ∀ k, F k → w0.heap.size ≤ k) (a3' : ∀ k, R k → w0.heap.size ≤ k) (a4 : F g) (a5 : R g2) (a6 : g ≠ g2) (a7 : Below w0.heap.size w0 w)
    (b1 : IsL 70 g w ok lv st) (b2 : IsL 76 g2 w okr lv2 st2) (b3 : ∀ k, ok k → F k) (b4 : ∀ k, lv2.ownBlock = some k → R k) (b5 : ∀ k, ok k → ¬ okr k) (b6 : ¬ ok g2) (b7 : ¬ okr g) (hok : LSok st') (h : Left 70 g w ok lv st' w') :
    Duet g g2 w0 w' st' st2 (fun k => F k ∨ w.heap.size ≤ k) R ∧ Fr w w' F := by
  obtain ⟨lv', h1, hf, _⟩ := h
  have hs := a7.size
  have hown := b1.own
  have hg2 := b2.lt
  have hfF : Fr w w' F := hf.mono (fun k _ hk => by rcases hk with hk | hk; exact hk ▸ a4; exact b3 k (hown k hk.symm).1)
  refine ⟨⟨hok, a2, fun k hk => hk.elim (a3 k) (fun h => by omega), a3', .inl a4, a5, a6, ?_, _, _, lv', lv2, h1, b2.bound.step (hf.block g2 hg2 ?_) (fun k hk hkl => hf.block k hkl ?_), ?_, b4, ?_, ?_, fun h => b7 h.1⟩, hfF⟩
  · exact ((Fr.of_below a7 (fun _ => False)).trans hfF (fun i hi => .inr (a3 i hi))).below (fun _ h => h.elim)
  · rintro (h | h)
    · exact a6 h.symm
    · exact b6 (hown g2 h.symm).1
  · rintro (h | h)
    · exact b7 (h ▸ hk.1)
    · exact b5 k (hown k h.symm).1 hk.1
  · exact fun k hk => hk.elim (fun h => .inl (b3 k h)) .inr
  · rintro k (h | h) h2
    · exact b5 k h h2.1
    · have := h2.2; omega
  · rintro (h | h)
    · exact b6 h
    · omega
theorem Duet.right {ok okr okx : Nat → Prop} {lv lv2 : Value} (a1 : LSok st) (a3 : ∀ k, F k → w0.heap.size ≤ k) (a3' : ∀ k, R k → w0.heap.size ≤ k) (a4 : F g) (a5 : R g2) (a6 : g ≠ g2) (a7 : Below w0.heap.size w0 w)
    (b1 : IsL 70 g w ok lv st) (b2 : IsL 76 g2 w okr lv2 st2) (b3 : ∀ k, ok k → F k) (b4 : ∀ k, lv2.ownBlock = some k → R k) (b5 : ∀ k, ok k → ¬ okr k) (b6 : ¬ ok g2) (b7 : ¬ okr g) (hx : ∀ k, okx k → k < w0.heap.size) (hok : LSok st') (h : Left 76 g2 w (fun k => okr k ∨ okx k) lv2 st' w') :
    Duet g g2 w0 w' st st' F (fun k => R k ∨ w.heap.size ≤ k) ∧ Fr w w' R := by
  obtain ⟨lv2', h1, hf, hn⟩ := h
  have hs := a7.size
  have hown := b2.own
  have hg := b1.lt
  have hfF : Fr w w' R := hf.mono (fun k _ hk => by rcases hk with hk | hk; exact hk ▸ a5; exact b4 k hk.symm)
  refine ⟨⟨a1, hok, a3, fun k hk => hk.elim (a3' k) (fun h => by omega), a4, .inl a5, a6, ?_, _, _, lv, lv2', b1.bound.step (hf.block g hg ?_) (fun k hk hkl => hf.block k hkl ?_), h1, fun k hk => b3 k hk.1, ?_, ?_, fun h => b6 h.1, ?_⟩, hfF⟩
  · exact ((Fr.of_below a7 (fun _ => False)).trans hfF (fun i hi => .inr (a3' i hi))).below (fun _ h => h.elim)
  · rintro (h | h)
    · exact a6 h
    · exact b7 (hown g h.symm).1
  · rintro (h | h)
    · exact b6 (h ▸ hk.1)
    · exact b5 k hk.1 (hown k h.symm).1
  · intro k hk
    rcases hn k hk with h | h
    · exact .inl (b4 k h.symm)
    · exact .inr h
  · rintro k hk ((h | h) | h)
    · exact b5 k hk.1 h
    · have := hx k h; have := a3 k (b3 k hk.1); omega
    · have := hk.2; omega
  · rintro ((h | h) | h)
    · exact b7 h
    · have := hx g h; have := a3 g a4; omega
    · omega
theorem duet_append (h : Duet g g2 w0 w st st2 F R) (x : S31) (cv : Value) {okx : Nat → Prop} (hr : RV (Kd.int .i64) w okx cv x.f4) :
    Calls Try.prog 9 #[.pointer (some ⟨g, 0, none⟩), entV x cv] w fun e w' => e = .returned (.int .i64 (st.append x).2) ∧ Duet g g2 w0 w' (st.append x).1 st2 (fun k => F k ∨ w.heap.size ≤ k) R ∧ Fr w w' F := by
  obtain ⟨a1, a2, a3, a3', a4, a5, a6, a7, ok, okr, lv, lv2, b1, b2, b3, b4, b5, b6, b7⟩ := h
  exact (append_any b1 a1 x cv hr).mono fun e w' ⟨a, b⟩ => ⟨a, Duet.left a2 a3 a3' a4 a5 a6 a7 b1 b2 b3 b4 b5 b6 b7 (a1.append x) b⟩
theorem duet_store (h : Duet g g2 w0 w st st2 F R) (i t : Int) (hi : 0 ≤ i) (es : List S31) {ve : Value} {oke : Nat → Prop} (he : G k31 31 w oke ve es) (hg : ¬ oke g) (hl : es.length ≤ 4096) (h7 : ∀ e, e ∈ es → e.f4.length ≤ 4096) :
    Calls Try.prog 11 #[.pointer (some ⟨g, 0, none⟩), .int .u64 i, .int .u64 t, ve] w fun e w' => ∃ v, e = .returned (.tuple #[.int .u64 (st.store i t es).at_, v, .int .i64 (st.store i t es).e]) ∧ G k31 31 w' (fun k => w.heap.size ≤ k) v (st.store i t es).put ∧ Duet g g2 w0 w' (st.store i t es).st st2 (fun k => F k ∨ w.heap.size ≤ k) R ∧ Fr w w' F := by
  obtain ⟨a1, a2, a3, a3', a4, a5, a6, a7, ok, okr, lv, lv2, b1, b2, b3, b4, b5, b6, b7⟩ := h
  exact (store_any b1 a1 i t hi es he hg hl h7).mono fun e w' ⟨v, a, b, c⟩ => ⟨v, a, G_mono c (fun k hk => hk.1), Duet.left a2 a3 a3' a4 a5 a6 a7 b1 b2 b3 b4 b5 b6 b7 (a1.store hi es) b⟩
theorem duet_compact (h : Duet g g2 w0 w st st2 F R) (i : Int) :
    Calls Try.prog 12 #[.pointer (some ⟨g, 0, none⟩), .int .u64 i] w fun e w' => e = .returned (.int .i64 (st.compact i).2) ∧ Duet g g2 w0 w' (st.compact i).1 st2 (fun k => F k ∨ w.heap.size ≤ k) R ∧ Fr w w' F := by
  obtain ⟨a1, a2, a3, a3', a4, a5, a6, a7, ok, okr, lv, lv2, b1, b2, b3, b4, b5, b6, b7⟩ := h
  exact (compact_any b1 a1 i).mono fun e w' ⟨a, b⟩ => ⟨a, Duet.left a2 a3 a3' a4 a5 a6 a7 b1 b2 b3 b4 b5 b6 b7 (a1.compact i) b⟩
theorem duet_slice (h : Duet g g2 w0 w st st2 F R) (i most : Int) (hi : i ≤ 18446744073709551615) :
    Calls Try.prog 19 #[.pointer (some ⟨g, 0, none⟩), .int .u64 i, .int .i64 most] w fun e w' => ∃ v, e = .returned (.tuple #[v, .int .i64 (st.slice i most).2]) ∧ G k31 31 w' (fun k => w.heap.size ≤ k) v (st.slice i most).1 ∧ Below w.heap.size w w' := by
  obtain ⟨a1, a2, a3, a3', a4, a5, a6, a7, ok, okr, lv, lv2, b1, b2, b3, b4, b5, b6, b7⟩ := h
  exact slice_any b1 a1 i most hi
theorem rduet_append (h : Duet g g2 w0 w st st2 F R) (x : S31) (cv : Value) {okx : Nat → Prop} (hr : RV (Kd.int .i64) w okx cv x.f4) (hx : ∀ k, okx k → k < w0.heap.size) :
    Calls Try.prog 24 #[.pointer (some ⟨g2, 0, none⟩), entV x cv] w fun e w' => e = .returned (.int .i64 (st2.append x).2) ∧ Duet g g2 w0 w' st (st2.append x).1 F (fun k => R k ∨ w.heap.size ≤ k) ∧ Fr w w' R := by
  obtain ⟨a1, a2, a3, a3', a4, a5, a6, a7, ok, okr, lv, lv2, b1, b2, b3, b4, b5, b6, b7⟩ := h
  exact (rappend_any b2 a2 x cv hr (fun k hk => ⟨by have := hx k hk; have := a3' g2 a5; omega, fun he => by have := hx k hk; have := a3' k (b4 k he.symm); omega⟩)).mono fun e w' ⟨a, b⟩ => ⟨a, Duet.right a1 a3 a3' a4 a5 a6 a7 b1 b2 b3 b4 b5 b6 b7 hx (a2.append x) b⟩
theorem rduet_store (h : Duet g g2 w0 w st st2 F R) (i t : Int) (hi : 0 ≤ i) (es : List S31) {Ae : Option Addr} {ce : Nat} {oke : Nat → Prop} (he : Kd.F k31 w oke Ae es.length es) (hce : es.length ≤ ce) (hx : ∀ k, oke k → k < w0.heap.size) (hl : es.length ≤ 4096) :
    Calls Try.prog 25 #[.pointer (some ⟨g2, 0, none⟩), .int .u64 i, .int .u64 t, .slice Ae es.length ce] w fun e w' => ∃ v, e = .returned (.tuple #[.int .u64 (st2.store i t es).at_, v, .int .i64 (st2.store i t es).e]) ∧ RV k31 w' (fun _ => True) v (st2.store i t es).put ∧ Duet g g2 w0 w' st (st2.store i t es).st F (fun k => R k ∨ w.heap.size ≤ k) ∧ Fr w w' R := by
  obtain ⟨a1, a2, a3, a3', a4, a5, a6, a7, ok, okr, lv, lv2, b1, b2, b3, b4, b5, b6, b7⟩ := h
  exact (rstore_any b2 a2 i t hi es he hce (fun k hk => ⟨by have := hx k hk; have := a3' g2 a5; omega, fun he => by have := hx k hk; have := a3' k (b4 k he.symm); omega⟩) hl).mono fun e w' ⟨v, a, b, c⟩ => ⟨v, a, RV_mono c (fun _ _ => trivial), Duet.right a1 a3 a3' a4 a5 a6 a7 b1 b2 b3 b4 b5 b6 b7 hx (a2.store hi es) b⟩
theorem rduet_compact (h : Duet g g2 w0 w st st2 F R) (i : Int) :
    Calls Try.prog 26 #[.pointer (some ⟨g2, 0, none⟩), .int .u64 i] w fun e w' => e = .returned (.int .i64 (st2.compact i).2) ∧ Duet g g2 w0 w' st (st2.compact i).1 F (fun k => R k ∨ w.heap.size ≤ k) ∧ Fr w w' R := by
  obtain ⟨a1, a2, a3, a3', a4, a5, a6, a7, ok, okr, lv, lv2, b1, b2, b3, b4, b5, b6, b7⟩ := h
  exact (rcompact_any b2 a2 i).mono fun e w' ⟨a, lv', h1, hf, hn⟩ => ⟨a, Duet.right (okx := fun _ => False) a1 a3 a3' a4 a5 a6 a7 b1 b2 b3 b4 b5 b6 b7 (fun _ h => h.elim) (a2.compact i) ⟨lv', h1.mono (fun k hk => hk.elim (fun h => .inl (.inl h)) .inr), hf, hn⟩⟩
theorem rduet_slice (h : Duet g g2 w0 w st st2 F R) (i most : Int) :
    Calls Try.prog 27 #[.pointer (some ⟨g2, 0, none⟩), .int .u64 i, .int .i64 most] w fun e w' => ∃ v, e = .returned (.tuple #[v, .int .i64 (st2.slice i most).2]) ∧ G k31 31 w' (fun _ => True) v (st2.slice i most).1 ∧ Below w.heap.size w w' := by
  obtain ⟨a1, a2, a3, a3', a4, a5, a6, a7, ok, okr, lv, lv2, b1, b2, b3, b4, b5, b6, b7⟩ := h
  exact (rslice_any b2 a2 i most).mono fun e w' ⟨v, a, b, c⟩ => ⟨v, a, G_mono b (fun _ _ => trivial), c⟩
theorem duet_alike (h : Duet g g2 w0 w st st F R) : Calls Try.prog 23 #[.pointer (some ⟨g, 0, none⟩), .pointer (some ⟨g2, 0, none⟩)] w fun e w' => e = .returned (.bool true) ∧ Below w.heap.size w w' := by
  obtain ⟨a1, a2, a3, a3', a4, a5, a6, a7, ok, okr, lv, lv2, b1, b2, b3, b4, b5, b6, b7⟩ := h
  exact alike_any b1 b2 a1
end
/-- What a Store hands back came in. -/
theorem put_in (st : LS) (i t : Int) (es : List S31) : (st.store i t es).put.length ≤ es.length ∧ ∀ e, e ∈ (st.store i t es).put → e ∈ es := by
  unfold LS.store
  split
  · exact ⟨Nat.zero_le _, fun e he => by cases he⟩
  split
  · exact ⟨Nat.zero_le _, fun e he => by cases he⟩
  have hs := List.dropWhile_sublist st.skip (l := es)
  split
  · exact ⟨Nat.zero_le _, fun e he => by cases he⟩
  rename_i e es' hd
  rw [hd] at hs
  split
  · exact ⟨Nat.zero_le _, fun e he => by cases he⟩
  · exact ⟨hs.length_le, fun x hx => hs.subset hx⟩
theorem seg_in (st : LS) (i most : Int) : (st.slice i most).1.length ≤ st.l.length ∧ ∀ e, e ∈ (st.slice i most).1 → e ∈ st.l := by
  unfold LS.slice
  split
  · exact ⟨Nat.zero_le _, fun e he => by cases he⟩
  split
  · exact ⟨Nat.zero_le _, fun e he => by cases he⟩
  · exact ⟨by simp only [List.length_take, List.length_drop]; omega, fun e he => List.mem_of_mem_drop (List.mem_of_mem_take he)⟩
theorem heap31 : Kd.Heap k31 := Kd.heap_iso _ (Kd.heap_pair (Kd.heap_int _) (Kd.heap_pair (Kd.heap_int _) (Kd.heap_pair (Kd.heap_int _) (Kd.heap_pair Kd.heap_string (Kd.heap_slice 3 (Kd.heap_int _))))))
end Go.Proofs.Ytpnmodkddiljeaa
