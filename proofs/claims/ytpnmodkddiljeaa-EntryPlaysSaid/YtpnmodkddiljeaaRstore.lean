/- The document's log: Store. Conditions: the log is in order; what the entries lead to is not the log's own. -/
import Derived.Test.YtpnmodkddiljeaaRef
namespace Go.Proofs.Ytpnmodkddiljeaa
open Go.RowKit Go.Proofs.YtpnmodkddiljeaaW.PrintWords Go.Proofs.YtpnmodkddiljeaaW.PrintLast PEntryPlays

/-- Element j of a row of entries that is read, with what its conf lies in. -/
theorem at_F31 {w : World} {ok : Nat → Prop} {A : Option Addr} {n : Nat} {xs : List S31} (h : Kd.F k31 w ok A n xs) (j : Nat) (hj : j < n) (hl : j < xs.length) :
    ∃ ad A4 c4, A = some ad ∧ w.cell? (ad.add (j * 5)) = some (.int .u64 xs[j].f0) ∧ w.cell? ⟨(ad.add (j * 5)).block, (ad.add (j * 5)).off + 1, none⟩ = some (.int .u64 xs[j].f1) ∧ w.cell? ⟨(ad.add (j * 5)).block, (ad.add (j * 5)).off + 2, none⟩ = some (.int .u8 xs[j].f2) ∧
      w.cell? ⟨(ad.add (j * 5)).block, (ad.add (j * 5)).off + 3, none⟩ = some (.string xs[j].f3) ∧ w.cell? ⟨(ad.add (j * 5)).block, (ad.add (j * 5)).off + 4, none⟩ = some (.slice A4 xs[j].f4.length c4) ∧ RV (Kd.int .i64) w ok (.slice A4 xs[j].f4.length c4) xs[j].f4 := by
  obtain ⟨ad, c, e, _, hK, hc0, _⟩ := Kd.F_get h z31 (j : Int) (by omega) (by omega)
  simp only [Int.toNat_natCast, List.getD_eq_getElem?_getD, List.getElem?_eq_getElem hl, Option.getD_some] at hK hc0
  obtain ⟨A4, c4, rfl, l4, g4⟩ := k31_openF hK
  have hc : ∀ i u, ([.int .u64 xs[j].f0, .int .u64 xs[j].f1, .int .u8 xs[j].f2, .string xs[j].f3, .slice A4 xs[j].f4.length c4] : List Value)[i]? = some u → w.cell? (ad.add (j * 5 + i)) = some u := hc0
  exact ⟨ad, A4, c4, e, hc 0 _ rfl, by rw [← add_field _ _ 1 (by omega)]; exact hc 1 _ rfl, by rw [← add_field _ _ 2 (by omega)]; exact hc 2 _ rfl, by rw [← add_field _ _ 3 (by omega)]; exact hc 3 _ rfl, by rw [← add_field _ _ 4 (by omega)]; exact hc 4 _ rfl, A4, c4, rfl, l4, g4⟩

theorem RV_nil {α : Type} (d : Kd α) (w : World) (ok : Nat → Prop) : RV d w ok (.slice none 0 0) [] := ⟨none, 0, rfl, Nat.le_refl _, Kd.F_nil d w ok⟩

set_option maxHeartbeats 4000000 in
set_option maxRecDepth 100000 in
theorem rstore_any {g : Nat} {w : World} {ok oke : Nat → Prop} {lv : Value} {st : LS} (h : IsL 76 g w ok lv st) (hok : LSok st) (i t : Int) (hi : 0 ≤ i) (es : List S31) {Ae : Option Addr} {ce : Nat} (he : Kd.F k31 w oke Ae es.length es) (hce : es.length ≤ ce)
    (hx : ∀ k, oke k → k ≠ g ∧ some k ≠ lv.ownBlock) (hl : es.length ≤ 4096) :
    Calls Try.prog 25 #[.pointer (some ⟨g, 0, none⟩), .int .u64 i, .int .u64 t, .slice Ae es.length ce] w fun e w' => ∃ v, e = .returned (.tuple #[.int .u64 (st.store i t es).at_, v, .int .i64 (st.store i t es).e]) ∧
      Left 76 g w (fun k => ok k ∨ oke k) lv (st.store i t es).st w' ∧ RV k31 w' (fun k => oke k ∧ k < w.heap.size) v (st.store i t es).put := by
  obtain ⟨R, hR⟩ : ∃ R, st.store i t es = R := ⟨_, rfl⟩
  rw [hR]
  have HR := Lib.hid hR
  have H := Lib.hid h
  have HO := Lib.hid hok
  have HE := Lib.hid (Kd.F_bound he)
  have HX := Lib.hid hx
  have HL := Lib.hid (fun (w' : World) (hb : Below w.heap.size w w') => IsL.left (h.mono (fun k hk => (.inl hk : ok k ∨ oke k))) hb)
  clear hR h hok he hx
  go_enter Try.func25, Try.ntmps25
  go_wp2_with fail
  go_loopw [11, 12, 13] (fun va vb vk wr => ∃ (k : Nat) (a b : Int), k ≤ es.length ∧ vk = .int .i64 k ∧ va = .int .u64 a ∧ vb = .int .u64 b ∧ mayES i t es = mayES a b (es.drop k) ∧ Below w.heap.size w wr) (fun _ _ vk _ => es.length - (intOf vk).toNat)
  case atStart => exact ⟨0, i, t, Nat.zero_le _, rfl, rfl, rfl, rfl, Below.refl _ _⟩
  case round =>
    obtain ⟨k, a, b, hk, rfl, rfl, rfl, hmay, hB⟩ := hrel
    have HB := Lib.hid hB
    by_cases hlt : k < es.length
    · have q1 : IntKind.i64.wrap ((k : Int) + 1) = (k + 1 : Nat) := IntWalk.i64_in _ (by omega)
      rw [List.drop_eq_getElem_cons hlt, mayES] at hmay
      obtain ⟨ad, A4, c4, rfl, e0, e1, e2, e3, e4, hrv⟩ := at_F31 (Kd.F_below HE.out hB) k hlt hlt
      have HRv := Lib.hid hrv
      generalize es[k] = x at *
      clear hrv hB
      go_wp2_with fail
      refine (rmayEntry_calls x HRv.out).mono ?_
      rintro e w2 ⟨rfl, hb⟩
      have HB2 := Lib.hid (below_then HB.out HB.out.size hb)
      have g0 := (hb.cell (World.block_lt_of_cell? wr _ e0)).trans e0
      have g1 := (hb.cell (World.block_lt_of_cell? wr _ e1)).trans e1
      clear e0 e1 e2 e3 e4 hb
      by_cases h1 : mayE x = true
      · by_cases h2 : x.f0 = IntKind.u64.wrap (a + 1)
        · have h2' : (x.f0 != IntKind.u64.wrap (a + 1)) = false := by simpa using h2
          by_cases h3 : x.f1 < b
          · have HM := Lib.hid (show mayES i t es = false by rw [hmay]; simp [h3])
            clear hmay h2
            rw [h1]
            go_wp2_with fail
            go_ret3
            have hR := HR.out
            unfold LS.store at hR
            rw [if_pos HM.out] at hR
            subst hR
            exact ⟨_, rfl, HL.out _ HB2.out, RV_nil _ _ _⟩
          · have HM := Lib.hid (show mayES i t es = mayES x.f0 x.f1 (es.drop (k + 1)) by rw [hmay]; simp [h1, h2, h3])
            clear hmay h2
            rw [h1]
            go_wp2_with fail
            exact ⟨⟨k + 1, x.f0, x.f1, by omega, by simp, rfl, rfl, HM.out, HB2.out⟩, by simp [intOf]; omega⟩
        · have h2' : (x.f0 != IntKind.u64.wrap (a + 1)) = true := by simpa using h2
          have HM := Lib.hid (show mayES i t es = false by rw [hmay]; simp [h2])
          clear hmay h2
          rw [h1]
          go_wp2_with fail
          go_ret3
          have hR := HR.out
          unfold LS.store at hR
          rw [if_pos HM.out] at hR
          subst hR
          exact ⟨_, rfl, HL.out _ HB2.out, RV_nil _ _ _⟩
      · have h1' : mayE x = false := by simpa using h1
        have HM := Lib.hid (show mayES i t es = false by rw [hmay]; simp [h1'])
        clear hmay h1
        rw [h1']
        go_wp2_with fail
        go_ret3
        have hR := HR.out
        unfold LS.store at hR
        rw [if_pos HM.out] at hR
        subst hR
        exact ⟨_, rfl, HL.out _ HB2.out, RV_nil _ _ _⟩
    · obtain rfl : k = es.length := by omega
      rw [List.drop_length, mayES] at hmay
      have HM := Lib.hid hmay
      have herr := termAt_err st i
      have h5 := fun (h : (st.termAt i).2 ≠ 5) => store_bound HO.out hi (t := t) hmay h
      have hst : st.store i t es = if (st.termAt i).2 = 5 ∨ ((st.termAt i).2 = 0 ∧ (st.termAt i).1 ≠ t) then ⟨st, 0, [], 261⟩ else st.put es := by
        unfold LS.store
        rw [hmay, if_neg (by simp)]
        rfl
      have HS := Lib.hid (hst.symm.trans HR.out)
      have H5 := Lib.hid h5
      clear hmay hst h5 hB
      go_wp2_with fail
      refine (rterm_any (H.out.below HB.out) HO.out i).mono ?_
      rintro e w2 ⟨rfl, hb⟩
      have HB2 := Lib.hid (below_then HB.out HB.out.size hb)
      clear hb
      generalize st.termAt i = p at *
      obtain ⟨tt, te⟩ := p
      dsimp only at *
      by_cases hcl : te = 5 ∨ (te = 0 ∧ tt ≠ t)
      · have hRe := HS.out
        rw [if_pos hcl] at hRe
        subst hRe
        by_cases ha : te = 5
        · subst ha
          clear hcl
          go_wp2_with fail
          go_ret3
          exact ⟨_, rfl, HL.out _ HB2.out, RV_nil _ _ _⟩
        · have hb : te = 0 := by omega
          subst hb
          have hne : (tt != t) = true := by rcases hcl with h | h; exact absurd h ha; simpa using h.2
          clear hcl
          go_wp2_with fail
          go_ret3
          exact ⟨_, rfl, HL.out _ HB2.out, RV_nil _ _ _⟩
      have hRe := HS.out
      rw [if_neg hcl] at hRe
      have HRe := Lib.hid hRe
      have t1 : (te == 5) = false := by simp; omega
      have H5' := Lib.hid (H5.out (by omega))
      have t2 : te = 0 → (tt != t) = false := fun h0 => by simp; exact Decidable.byContradiction fun h => hcl (.inr ⟨h0, h⟩)
      have t3 : (te == 0) = false ∨ (te == 0) = true ∧ (tt != t) = false := by
        by_cases h0 : te = 0
        · exact .inr ⟨by simpa using h0, t2 h0⟩
        · exact .inl (by simpa using h0)
      clear hRe hcl herr t2 HS H5
      rcases t3 with t3 | ⟨t3, t4⟩
      all_goals
        go_wp2_with fail
        go_loopw [16] (fun vk wr => ∃ k : Nat, k ≤ es.length ∧ vk = .int .i64 k ∧ (∀ j (hj : j < es.length), j < k → st.skip es[j] = true) ∧ Below w.heap.size w wr) (fun vk _ => es.length - (intOf vk).toNat)
        case atStart => exact ⟨0, Nat.zero_le _, rfl, fun _ _ h => by omega, HB2.out⟩
        case round =>
          obtain ⟨k, hk, rfl, hsk, hB⟩ := hrel
          have HBr := Lib.hid hB
          have HSk := Lib.hid hsk
          clear hsk
          by_cases hlt : k < es.length
          · have q1 : IntKind.i64.wrap ((k : Int) + 1) = (k + 1 : Nat) := IntWalk.i64_in _ (by omega)
            obtain ⟨ad, A4, c4, rfl, e0, e1, e2, e3, e4, hrv⟩ := at_F31 (Kd.F_below HE.out hB) k hlt hlt
            have HLr := Lib.hid (H.out.below hB)
            obtain ⟨⟨cf, hbg, _⟩, _⟩ := HLr.out
            have r0 := blk_cell hbg 0
            simp only [List.getElem?_toArray, List.getElem?_cons_zero] at r0
            clear e2 e3 e4 hrv hbg hB
            by_cases hskk : st.skip es[k] = true
            · have hsn := Lib.hid (show ∀ j (hj : j < es.length), j < k + 1 → st.skip es[j] = true from fun j hj hjk => by
                by_cases e : j = k
                · subst e; exact hskk
                · exact HSk.out j hj (by omega))
              by_cases hix : es[k].f0 ≤ st.index
              · clear hskk e1
                generalize es[k].f0 = f0 at *
                go_wp2_with fail
                exact ⟨⟨k + 1, by omega, by simp, hsn.out, HBr.out⟩, by simp [intOf]; omega⟩
              · have hft : st.fits es[k].f0 es[k].f1 = true := by
                  simp only [LS.skip, Bool.or_eq_true, decide_eq_true_eq] at hskk
                  exact hskk.resolve_left hix
                have HFt := Lib.hid (rfits_any HLr.out HO.out es[k].f0 es[k].f1)
                rw [hft] at HFt
                clear hskk hft
                generalize es[k].f0 = f0 at *
                generalize es[k].f1 = f1 at *
                go_wp2_with fail
                refine HFt.out.mono ?_
                rintro e w3 ⟨rfl, hb⟩
                have HB3 := Lib.hid (below_then HBr.out HBr.out.size hb)
                clear hb
                go_wp2_with fail
                exact ⟨⟨k + 1, by omega, by simp, hsn.out, HB3.out⟩, by simp [intOf]; omega⟩
            · have hsf : st.skip es[k] = false := by simpa using hskk
              have hix : ¬ es[k].f0 ≤ st.index := by intro h; simp [LS.skip, h] at hsf
              have hft : st.fits es[k].f0 es[k].f1 = false := by
                simp only [LS.skip, Bool.or_eq_false_iff] at hsf
                exact hsf.2
              have HFt := Lib.hid (rfits_any HLr.out HO.out es[k].f0 es[k].f1)
              rw [hft] at HFt
              obtain ⟨n, hn, hnl⟩ := H5'.out k hlt HSk.out (by omega)
              obtain ⟨P, hP⟩ : ∃ P, P = es.length - 1 := ⟨_, rfl⟩
              have hPl : P < es.length := by omega
              have hPl2 : es.length ≤ P + 1 := by omega
              clear hP
              have hlast : es[P].f0 = es[k].f0 + ((P - k : Nat) : Int) := by
                have h1 := mayES_at HM.out P hPl
                have h2 := mayES_at HM.out k hlt
                omega
              have hput : st.put es = if 4096 < (n : Int) + ((es.length - k : Nat) : Int) then ⟨st, 0, [], 6⟩ else ⟨{ st with l := st.l.take n ++ es.drop k }, es[k].f0, es.drop k, 0⟩ := by
                unfold LS.put
                rw [dropWhile_at HSk.out (fun _ => hsf), List.drop_eq_getElem_cons hlt]
                simp only [hn, Int.toNat_natCast, List.length_drop]
                rw [show ((es.length - (k + 1) : Nat) : Int) + 1 = ((es.length - k : Nat) : Int) by omega]
              have HPut := Lib.hid (HRe.out.symm.trans hput)
              have hmx := mayES_drop HM.out es[k] (List.getElem_mem _)
              have hlen := HO.out.len
              have hi0 := HO.out.i0
              have hi1 := HO.out.i1
              have HEk := Lib.hid (Kd.F_cut HE.out (m := k) (by omega) hce)
              have hel : (es.drop k).length = es.length - k := List.length_drop
              rw [hel] at HEk
              have q0 : IntKind.u64.wrap (es[k].f0 - st.index) = es[k].f0 - st.index := IntWalk.u64_in _ (by omega)
              have q2 : IntKind.u64.wrap (es[k].f0 - st.index - 1) = n := (IntWalk.u64_in _ (by omega)).trans hn
              have q3 : IntKind.i64.wrap ((es.length : Int) - 1) = (P : Int) := (IntWalk.i64_in _ (by omega)).trans (by omega)
              have q4 : IntKind.u64.wrap (es[P].f0 - st.index) = es[P].f0 - st.index := IntWalk.u64_in _ (by omega)
              have q5 : (P : Int) < (es.length : Int) := by omega
              have q6 : (0 : Int) ≤ (P : Int) := by omega
              obtain ⟨xs, hxs⟩ : ∃ xs, es.drop k = xs := ⟨_, rfl⟩
              rw [hxs] at HPut HEk
              clear hskk hsf hft hput HSk hxs hel
              generalize es[k].f0 = f0 at *
              generalize es[k].f1 = f1 at *
              go_wp2_with fail
              refine HFt.out.mono ?_
              rintro e w3 ⟨rfl, hb⟩
              have HB3 := Lib.hid (below_then HBr.out HBr.out.size hb)
              clear hb e0 e1 r0
              obtain ⟨_, _, _, hade, l0, _, _, _, _, _⟩ := at_F31 (Kd.F_below HE.out HB3.out) P hPl hPl
              injection hade with hade
              subst hade
              obtain ⟨⟨cf3, hbg3, hcf3⟩, hll3⟩ := H.out.below HB3.out
              obtain ⟨A, c, rfl, hlc⟩ := G_slice hll3
              have r0 := blk_cell hbg3 0
              have r3 := blk_cell hbg3 3
              simp only [List.getElem?_toArray, List.getElem?_cons_succ, List.getElem?_cons_zero] at r0 r3
              have HBg3 := Lib.hid hbg3
              have HCf3 := Lib.hid (RV_bound hcf3)
              have HCut := Lib.hid (G_take hll3 (m := n) (k := c) hnl (by omega) (Nat.le_refl _))
              have HN := Lib.hid hn
              clear hbg3 hcf3 hll3
              generalize es[P].f0 = lf at *
              have HLf := Lib.hid hlast
              clear hn hlast
              go_wp2_with fail
              go_quiet (fail)
              clear l0
              have HB4 := Lib.hid (pw_below_drewN HB3.out nq)
              have HBg4 := Lib.hid (blk_below HBg3.out (pw_below_drewN (Below.refl _ _) nq))
              have HCf4 := Lib.hid (RV_below HCf3.out (pw_below_drewN (Below.refl w3.heap.size w3) nq))
              have HCut4 := Lib.hid (G_drewN HCut.out nq)
              have hs34 : (w3.drewN nq).heap.size = w3.heap.size := rfl
              clear HB3 HBg3 HCf3 HCut r0 r3
              have hw4 := HB4.out.size
              have hlf := HLf.out
              have hnn := HN.out
              by_cases hfull : 4096 < (n : Int) + ((es.length - k : Nat) : Int)
              · have hf : lf - st.index > 4096 := by omega
                have hpe := HPut.out
                rw [if_pos hfull] at hpe
                subst hpe
                clear hlf hnn hfull
                generalize w3.drewN nq = w4 at *
                go_wp2_with fail
                go_ret3
                exact ⟨_, rfl, HL.out _ HB4.out, RV_nil _ _ _⟩
              · have hf : ¬ lf - st.index > 4096 := by omega
                have hpe := HPut.out
                rw [if_neg hfull] at hpe
                subst hpe
                have z1 : (0 : Int) ≤ (n : Int) := by omega
                have z2 : (n : Int) ≤ (c : Int) := by omega
                have z3 : ¬ ce = k := by omega
                clear hlf hnn hfull
                generalize w3.drewN nq = w4 at *
                have r0 := blk_cell HBg4.out 0
                have r3 := blk_cell HBg4.out 3
                simp only [List.getElem?_toArray, List.getElem?_cons_succ, List.getElem?_cons_zero] at r0 r3
                have HSg : ∀ w', Fr w4 w' (fun _ => False) → (fun w' => w'.cell? ⟨g, 3, none⟩ = some (.slice A st.l.length c) ∧ w'.cell? ⟨g, 0, none⟩ = some (.int .u64 st.index)) w' := fun w' hf => ⟨hf.cell (fun h => h) r3, hf.cell (fun h => h) r0⟩
                clear r0 r3
                go_wp2_with fail
                refine start_ (n := 15) (S := (fun w' => w'.cell? ⟨g, 3, none⟩ = some (.slice A st.l.length c) ∧ w'.cell? ⟨g, 0, none⟩ = some (.int .u64 st.index))) (ds := [13]) #[false, false, false, false, false, false, false, false, false, false, false, false, false, false, false] (by kernel_rfl) rfl rfl (by exact HSg _ (Fr.refl w4 _).drew) (fun hHeld => ?_)
                refine pure_ (i := 0) (N := some 119) (v := ?_) (a' := ?_) #[true, false, false, false, false, false, false, false, false, false, false, false, false, false, false] rfl rfl (by kernel_rfl) (fun _ _ _ h => h) (Or.inl ⟨by rfl, ?_⟩) ?_ ?_   -- move
                rotate_left
                · intro w'
                  go_simp
                  with_reducible rfl
                rotate_left
                · simp only [Act.put, List.setIfInBounds_toArray, List.set_cons_zero, List.set_cons_succ]
                  rfl
                refine pure_ (i := 1) (N := some 120) (v := ?_) (a' := ?_) #[true, true, false, false, false, false, false, false, false, false, false, false, false, false, false] rfl rfl (by kernel_rfl) (fun _ _ _ h => h) (Or.inl ⟨by rfl, ?_⟩) ?_ ?_   -- move
                rotate_left
                · intro w'
                  go_simp
                  with_reducible rfl
                rotate_left
                · simp only [Act.put, List.setIfInBounds_toArray, List.set_cons_zero, List.set_cons_succ]
                  rfl
                refine pure_ (i := 2) (N := some 121) (v := ?_) (a' := ?_) #[true, true, true, false, false, false, false, false, false, false, false, false, false, false, false] rfl rfl (by kernel_rfl) (fun _ _ _ h => h) (Or.inl ⟨by rfl, ?_⟩) ?_ ?_   -- nilCheck
                rotate_left
                · intro w'
                  go_simp
                  with_reducible rfl
                rotate_left
                · simp only [Act.put, List.setIfInBounds_toArray, List.set_cons_zero, List.set_cons_succ]
                  rfl
                refine pure_ (i := 3) (N := some 122) (v := ?_) (a' := ?_) #[true, true, true, true, false, false, false, false, false, false, false, false, false, false, false] rfl rfl (by kernel_rfl) (fun _ _ _ h => h) (Or.inl ⟨by rfl, ?_⟩) ?_ ?_   -- fieldAddr
                rotate_left
                · intro w'
                  go_simp
                  with_reducible rfl
                rotate_left
                · simp only [Act.put, List.setIfInBounds_toArray, List.set_cons_zero, List.set_cons_succ]
                  rfl
                refine pure_ (i := 5) (N := some 124) (v := ?_) (a' := ?_) #[true, true, true, true, false, true, false, false, false, false, false, false, false, false, false] rfl rfl (by kernel_rfl) (fun _ _ _ h => h) (Or.inl ⟨by rfl, ?_⟩) ?_ ?_   -- move
                rotate_left
                · intro w'
                  go_simp
                  with_reducible rfl
                rotate_left
                · simp only [Act.put, List.setIfInBounds_toArray, List.set_cons_zero, List.set_cons_succ]
                  rfl
                refine pure_ (i := 6) (N := some 125) (v := ?_) (a' := ?_) #[true, true, true, true, false, true, true, false, false, false, false, false, false, false, false] rfl rfl (by kernel_rfl) (fun _ _ _ h => h) (Or.inl ⟨by rfl, ?_⟩) ?_ ?_   -- move
                rotate_left
                · intro w'
                  go_simp
                  with_reducible rfl
                rotate_left
                · simp only [Act.put, List.setIfInBounds_toArray, List.set_cons_zero, List.set_cons_succ]
                  rfl
                refine pure_ (i := 7) (N := some 126) (v := ?_) (a' := ?_) #[true, true, true, true, false, true, true, true, false, false, false, false, false, false, false] rfl rfl (by kernel_rfl) (fun _ _ _ h => h) (Or.inl ⟨by rfl, ?_⟩) ?_ ?_   -- nilCheck
                rotate_left
                · intro w'
                  go_simp
                  with_reducible rfl
                rotate_left
                · simp only [Act.put, List.setIfInBounds_toArray, List.set_cons_zero, List.set_cons_succ]
                  rfl
                refine pure_ (i := 8) (N := some 127) (v := ?_) (a' := ?_) #[true, true, true, true, false, true, true, true, true, false, false, false, false, false, false] rfl rfl (by kernel_rfl) (fun _ _ _ h => h) (Or.inl ⟨by rfl, ?_⟩) ?_ ?_   -- fieldAddr
                rotate_left
                · intro w'
                  go_simp
                  with_reducible rfl
                rotate_left
                · simp only [Act.put, List.setIfInBounds_toArray, List.set_cons_zero, List.set_cons_succ]
                  rfl
                refine take_ (i := 4) (N := some 123) (v := ?_) (a' := ?_) #[true, true, true, true, true, true, true, true, true, false, false, false, false, false, false] rfl rfl (by kernel_rfl) (fun _ _ _ h => h) (Or.inl ⟨by rfl, ?_⟩) hHeld ?_ ?_   -- Go.Op.load 33 (Go.Operand.tmp 122)
                rotate_left
                · rintro w' ⟨s0, s1⟩
                  go_simp
                  with_reducible rfl
                rotate_left
                · simp only [Act.put, List.setIfInBounds_toArray, List.set_cons_zero, List.set_cons_succ]
                  rfl
                refine take_ (i := 9) (N := some 128) (v := ?_) (a' := ?_) #[true, true, true, true, true, true, true, true, true, true, false, false, false, false, false] rfl rfl (by kernel_rfl) (fun _ _ _ h => h) (Or.inl ⟨by rfl, ?_⟩) hHeld ?_ ?_   -- Go.Op.load 27 (Go.Operand.tmp 127)
                rotate_left
                · rintro w' ⟨s0, s1⟩
                  go_simp
                  with_reducible rfl
                rotate_left
                · simp only [Act.put, List.setIfInBounds_toArray, List.set_cons_zero, List.set_cons_succ]
                  rfl
                refine pure_ (i := 10) (N := some 129) (v := ?_) (a' := ?_) #[true, true, true, true, true, true, true, true, true, true, true, false, false, false, false] rfl rfl (by kernel_rfl) (fun _ _ _ h => h) (Or.inl ⟨by rfl, ?_⟩) ?_ ?_   -- binOp
                rotate_left
                · intro w'
                  go_simp
                  with_reducible rfl
                rotate_left
                · simp only [Act.put, List.setIfInBounds_toArray, List.set_cons_zero, List.set_cons_succ]
                  rfl
                refine pure_ (i := 11) (N := some 130) (v := ?_) (a' := ?_) #[true, true, true, true, true, true, true, true, true, true, true, true, false, false, false] rfl rfl (by kernel_rfl) (fun _ _ _ h => h) (Or.inl ⟨by rfl, ?_⟩) ?_ ?_   -- binOp
                rotate_left
                · intro w'
                  go_simp
                  with_reducible rfl
                rotate_left
                · simp only [Act.put, List.setIfInBounds_toArray, List.set_cons_zero, List.set_cons_succ]
                  rfl
                refine pure_ (i := 12) (N := some 131) (v := ?_) (a' := ?_) #[true, true, true, true, true, true, true, true, true, true, true, true, true, false, false] rfl rfl (by kernel_rfl) (fun _ _ _ h => h) (Or.inl ⟨by rfl, ?_⟩) ?_ ?_   -- slice
                rotate_left
                · intro w'
                  go_simp
                  with_reducible rfl
                rotate_left
                · simp only [Act.put, List.setIfInBounds_toArray, List.set_cons_zero, List.set_cons_succ]
                  rfl
                refine last_ (i := 13) (N := some 132) #[true, true, true, true, true, true, true, true, true, true, true, true, true, true, false] rfl rfl (by kernel_rfl) (by decide) (fun K hK => ?_)   -- Go.Op.call { callee := Go.Callee.builtin Go.Builtin.append, args := #[Go.Operand.tmp 119, Go.Operand.tmp 131],
                have hgw := H.out.lt
                refine G_append_rows_step k31 (by rfl) (.tmp 119) (.tmp 131) 33 31 _ 64 rfl Try.underlying33 ent_info rfl (by decide) (.slice none 0 0) [] (st.l.take n) A n c (fun b => ((ok b ∨ oke b) ∨ w.heap.size ≤ b) ∧ b ≠ g) (fun b => ok b ∧ b ≠ g) rfl rfl (G_nil _ _ _ _) (Kd.F_drew (G_F HCut4.out)) (fun b hb => ⟨⟨.inl (.inl hb.1), hb.2⟩, by simp [Value.ownBlock]⟩) (fun b hb => by have : w4.heap.size ≤ b := hb; exact ⟨.inr (by omega), by omega⟩) (by simp; omega) ?_
                intro v5 w5 hG5 hg5 hat5 _
                rw [List.nil_append] at hG5
                have htl : (st.l.take n).length = n := by rw [List.length_take]; omega
                have HG5 := Lib.hid hG5
                have HF5 := Lib.hid ((Fr.refl w4 (fun _ => False)).drew.then_grown hg5 (fun b hb => by simp [Value.ownBlock] at hb))
                have HOw5 := Lib.hid (show ∀ b, v5.ownBlock = some b → w4.heap.size ≤ b from fun b hb => by
                  rcases hat5 with h | ⟨b', h1, h2⟩
                  · rw [h] at hb; simp [Value.ownBlock] at hb
                  · rw [h1] at hb; injection hb with hb; have : w4.heap.size ≤ b' := h2; omega)
                obtain ⟨A5, c5, hv5, _⟩ := G_slice hG5
                rw [htl] at hv5
                subst hv5
                clear hg5 hat5 hG5 hgw
                refine hK.out _ _ ?_
                clear hK K
                refine norm_ (a' := ?_) ?_ ?_
                rotate_left
                · show Act.put _ (some 132) _ = _
                  simp only [Act.put, List.setIfInBounds_toArray, List.set_cons_zero, List.set_cons_succ]
                  rfl
                refine pure_ (i := 14) (N := some 18) (v := ?_) (a' := ?_) #[true, true, true, true, true, true, true, true, true, true, true, true, true, true, true] rfl rfl (by kernel_rfl) (fun _ _ _ h => h) (Or.inl ⟨by rfl, ?_⟩) ?_ ?_   -- assign
                rotate_left
                · intro w'
                  go_simp
                  with_reducible rfl
                rotate_left
                · simp only [Act.put, List.setIfInBounds_toArray, List.set_cons_zero, List.set_cons_succ]
                  rfl
                refine done_ (by kernel_rfl) ?_
                clear HSg hHeld
                have hgw := H.out.lt
                have hw5 : w4.heap.size ≤ w5.heap.size := HF5.out.size
                have HBg5 := Lib.hid (HF5.out.blk (fun h => h) HBg4.out)
                have hks := HEk.out
                rw [if_neg z3, Option.map_some] at hks
                have HEk5 := Lib.hid (F_fr (Kd.F_below hks HB4.out) HF5.out (fun _ _ h => h))
                have hxl : es.length - k = xs.length := (Kd.F_len hks).symm
                have HXs := Lib.hid (by have h0 := Kd.F_below hks HB4.out; rwa [hxl] at h0)
                have hl64 : ((st.l.take n).length + (es.length - k)) * 64 ≤ 140737488355328 := by rw [htl]; omega
                have HGe := Lib.hid (show ∀ b, oke b → b ≠ g from fun b hb => (HX.out b hb).1)
                have HXl := Lib.hid hxl
                have HTl := Lib.hid htl
                clear hks HEk hxl htl
                go_wp2_with (at_builtin; refine G_append_rows k31 rfl (.tmp 134) (.tmp 137) 33 31 _ 64 rfl Try.underlying33 ent_info rfl (by decide) (.slice A5 n c5) (st.l.take n) xs (some (ad.add (k * 5))) (es.length - k) (ce - k) (fun b => ((ok b ∨ oke b) ∨ w.heap.size ≤ b) ∧ b ≠ g) (fun b => oke b ∧ b < w.heap.size) rfl rfl HG5.out HEk5.out (fun b hb => ⟨⟨.inl (.inr hb.1), HGe.out b hb.1⟩, fun he => by have := HOw5.out b he.symm; have := hb.2; omega⟩) (fun b hb => ⟨.inr (by omega), by omega⟩) hl64 ?_; intro v7 w7 hG7 hg7 hat7 _; obtain ⟨A7, c7, hv7, _⟩ := G_slice hG7; rw [List.length_append, HTl.out] at hv7; subst hv7; have hb7 := hg7.block g (by omega) (fun he => by have := HOw5.out g he.symm; omega); have hb7' := hb7.trans HBg5.out; have c0 := blk_cell hb7'; have f0' := blk_frozen hb7')
                have HG7 := Lib.hid hG7
                have HB7 := Lib.hid hb7'
                have HF7 := Lib.hid ((HF5.out.mono (S1 := fun b => w4.heap.size ≤ b) (fun _ _ h => h.elim)).then_grown hg7 (fun b hb => .inl (HOw5.out b hb)))
                have HOw7 := Lib.hid (show ∀ b, (Value.slice A7 (n + xs.length) c7).ownBlock = some b → w4.heap.size ≤ b from fun b hb => by
                  rcases hat7 with h | ⟨b', h1, h2⟩
                  · exact HOw5.out b (h ▸ hb)
                  · rw [h1] at hb; injection hb with hb; have : w5.heap.size ≤ b' := h2; omega)
                clear hG7 hb7' hb7 hg7 hat7 c0 f0'
                go_wp2_with fail
                have HB8 := Lib.hid (blk_set HB7.out 3 (.slice A7 (n + xs.length) c7))
                have HG8 := Lib.hid (G_set HG7.out (p := ⟨g, 3, none⟩) (fun h => h.2 rfl) (.slice A7 (n + xs.length) c7))
                have HF8 := Lib.hid ((HF7.out.mono (S1 := fun b => b = g ∨ w4.heap.size ≤ b) (fun _ _ h => .inr h)).setCell (p := ⟨g, 3, none⟩) (.inl (.inl rfl)) (.slice A7 (n + xs.length) c7))
                generalize w7.setCell ⟨g, 3, none⟩ (.slice A7 (n + xs.length) c7) = w8 at *
                go_wp2_with fail
                go_quiet (fail)
                have HB9 := Lib.hid (blk_below HB8.out (pw_below_drewN (Below.refl _ _) nq))
                have HG9 := Lib.hid (G_drewN HG8.out nq)
                have HF9 := Lib.hid (HF8.out.drewN nq)
                generalize w8.drewN nq = w9 at *
                go_wp2_with fail
                go_ret3
                have hlw := HB4.out.size
                refine ⟨_, rfl, ⟨.slice A7 (n + xs.length) c7, ⟨⟨cf3, by simpa using HB9.out, ?_⟩, ?_⟩, ?_, ?_⟩, ?_⟩
                · refine RV_mono (RV_fr HCf4.out HF9.out (fun b hb he => ?_)) (fun b hb => ⟨.inl (.inl hb.1.1), hb.1.2.1, fun he => by have := HOw7.out b he.symm; have := hb.2; omega⟩)
                  rcases he with he | he
                  · exact hb.1.2.1 he
                  · have := hb.2; omega
                · exact G_mono HG9.out (fun b hb => hb)
                · exact (Fr.of_below HB4.out _).trans HF9.out (fun b hb => by rcases hb with hb | hb; exact .inl (.inl hb); exact .inr (by omega))
                · exact fun b hb => .inr (by have := HOw7.out b hb; omega)
                · refine ⟨_, ce - k, by rw [← HXl.out]; rfl, by have := HXl.out; omega, F_fr HXs.out HF9.out (fun b hb he => ?_)⟩
                  rcases he with he | he
                  · exact HGe.out b hb.1 he
                  · have := hb.2; omega
          · obtain rfl : k = es.length := by omega
            have hRe := HRe.out
            unfold LS.put at hRe
            rw [rdropAll (fun x hx => by obtain ⟨j, hj, rfl⟩ := List.getElem_of_mem hx; exact HSk.out j hj hj)] at hRe
            dsimp only at hRe
            subst hRe
            clear hB
            go_wp2_with fail
            go_ret3
            exact ⟨_, rfl, HL.out _ HBr.out, RV_nil _ _ _⟩
end Go.Proofs.Ytpnmodkddiljeaa
