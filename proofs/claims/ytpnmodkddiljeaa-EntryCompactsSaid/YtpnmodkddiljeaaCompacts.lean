/- EntryCompacts: the walk. Conditions: the arguments lie in their types and within the reach. -/
import Derived.Test.YtpnmodkddiljeaaComp
import Derived.Test.YtpnmodkddiljeaaTwin
namespace Go.Proofs.Ytpnmodkddiljeaa
open Go.RowKit Go.Proofs.YtpnmodkddiljeaaW.PrintWords Go.Proofs.YtpnmodkddiljeaaW.PrintLast PEntryPlays Go.Shelf

theorem heavy_calls (l : List S45) {w : World} {A : Option Addr} {c : Nat} (h : Kd.C k45 w A l.length l) (hc : l.length ≤ c) : Calls Try.prog 15 #[.slice A l.length c] w fun e w' => e = .returned (.bool (heavyS l)) ∧ Below w.heap.size w w' := by
  obtain ⟨k, hk⟩ := (heavy_ev l).rounds
  exact (codicillaw26_heavy.calls k A c l _ w h hc hk).mono fun _ _ h => ⟨h.1, h.2.below⟩
theorem store_index (st : LS) (i t : Int) (es : List S31) : (st.store i t es).st.index = st.index := by
  unfold LS.store
  split
  · rfl
  split
  · rfl
  split
  · rfl
  split <;> rfl
theorem append_index (st : LS) (x : S31) : (st.append x).1.index = st.index := by
  unfold LS.append
  split
  · rfl
  split
  · rfl
  split <;> rfl
theorem termAt_ok {st : LS} (hok : LSok st) {x : Int} (h1 : st.index ≤ x) (h2 : x ≤ st.index + st.l.length) : (st.termAt x).2 = 0 := by
  unfold LS.termAt
  rw [hok.last1, if_neg (by omega), if_neg (by omega)]
  split <;> rfl
theorem confAt_cut {st : LS} (hok : LSok st) {c x : Int} (h : (st.termAt c).2 = 0) (hx : c ≤ x) : (st.cut c).confAt x = st.confAt x := by
  unfold LS.confAt
  rw [term_cut hok h hx, (says_cut hok (termAt_in hok h).1 (termAt_in hok h).2 hx).1]
theorem confAt_len {st : LS} (hok : LSok st) (x : Int) : (st.confAt x).1.length ≤ 4096 := by
  unfold LS.confAt
  split
  · have := (confB_len (says_conf hok x)).2
    show (st.says x).1.length ≤ 4096
    omega
  · exact Nat.zero_le _
theorem live_last2 {g : Nat} {w0 w : World} {st : LS} (h : Live g w0 w st) : Calls Try.prog 14 #[.pointer (some ⟨g, 0, none⟩)] w fun e w' => e = .returned (.tuple #[.int .u64 st.last.1, .int .u64 st.last.2]) ∧ Below w.heap.size w w' := by
  obtain ⟨h1, h2, h3, lv, h4⟩ := h
  exact last_any h4 h1.len
theorem live_term {g : Nat} {w0 w : World} {st : LS} (h : Live g w0 w st) (i : Int) : Calls Try.prog 30 #[.pointer (some ⟨g, 0, none⟩), .int .u64 i] w fun e w' => e = .returned (.tuple #[.int .u64 (st.termAt i).1, .int .i64 (st.termAt i).2]) ∧ Below w.heap.size w w' := by
  obtain ⟨h1, h2, h3, lv, h4⟩ := h
  exact term_any h4 h1 i
theorem live_confAt {g : Nat} {w0 w : World} {st : LS} (h : Live g w0 w st) (i : Int) : Calls Try.prog 31 #[.pointer (some ⟨g, 0, none⟩), .int .u64 i] w fun e w' => ∃ v, e = .returned (.tuple #[v, .int .i64 (st.confAt i).2]) ∧ G (Kd.int .i64) 3 w' (fun k => w.heap.size ≤ k) v (st.confAt i).1 ∧ Below w.heap.size w w' := by
  obtain ⟨h1, h2, h3, lv, h4⟩ := h
  exact confAt_any h4 h1 i
theorem live_fits2 {g : Nat} {w0 w : World} {st : LS} (h : Live g w0 w st) (i t : Int) : Calls Try.prog 32 #[.pointer (some ⟨g, 0, none⟩), .int .u64 i, .int .u64 t] w fun e w' => e = .returned (.bool (st.fits i t)) ∧ Below w.heap.size w w' := by
  obtain ⟨h1, h2, h3, lv, h4⟩ := h
  exact fits_any h4 h1 i t
theorem live_slice2 {g : Nat} {w0 w : World} {st : LS} (h : Live g w0 w st) (i most : Int) (hi : i ≤ 18446744073709551615) : Calls Try.prog 19 #[.pointer (some ⟨g, 0, none⟩), .int .u64 i, .int .i64 most] w fun e w' => ∃ v, e = .returned (.tuple #[v, .int .i64 (st.slice i most).2]) ∧ G k31 31 w' (fun k => w.heap.size ≤ k) v (st.slice i most).1 ∧ Below w.heap.size w w' := by
  obtain ⟨h1, h2, h3, lv, h4⟩ := h
  exact slice_any h4 h1 i most hi
theorem same_calls (l : List S31) {w : World} {A B : Option Addr} {c d : Nat} {oka okb : Nat → Prop} (ha : G k31 31 w oka (.slice A l.length c) l) (hb : G k31 31 w okb (.slice B l.length d) l) (hl : l.length ≤ 4096) (h7 : ∀ e, e ∈ l → e.f4.length ≤ 4096) :
    Calls Try.prog 20 #[.slice A l.length c, .slice B l.length d] w fun e w' => e = .returned (.bool true) ∧ Below w.heap.size w w' := by
  obtain ⟨k, hk⟩ := (sameEntries_refl l (by omega) (fun e he => by have := h7 e he; omega)).rounds
  exact codicilref23_SameEntries.calls k A c l B d l true w (G_C ha) (G_len ha).2 (G_C hb) (G_len hb).2 hk
theorem slice_cut {st : LS} (h0 : st.index = 0) (M : Nat) (hl : st.l.length ≤ 4096) : st.slice ((M : Int) + 1) 4096 = (st.l.drop M, 0) ∧ (st.cut (M : Int)).slice ((M : Int) + 1) 4096 = (st.l.drop M, 0) := by
  constructor
  · unfold LS.slice
    rw [if_neg (by omega), if_neg (by omega), h0, show ((M : Int) + 1 - 0 - 1).toNat = M by omega, List.take_of_length_le (by simp; omega)]
  · unfold LS.slice
    rw [if_neg (by omega), if_neg (by show ¬ (M : Int) + 1 ≤ (M : Int); omega)]
    show ((((st.l.drop ((M : Int) - st.index).toNat).drop ((M : Int) + 1 - (M : Int) - 1).toNat).take _), (0 : Int)) = _
    rw [h0, show ((M : Int) + 1 - (M : Int) - 1).toNat = 0 by omega, show ((M : Int) - 0).toNat = M by omega, List.drop_zero, List.take_of_length_le (by simp; omega)]
theorem sameConf_calls (l : List Int) {w : World} {A B : Option Addr} {c d : Nat} {oka okb : Nat → Prop} (ha : G (Kd.int .i64) 3 w oka (.slice A l.length c) l) (hb : G (Kd.int .i64) 3 w okb (.slice B l.length d) l) (hl : l.length ≤ 4096) :
    Calls Try.prog 29 #[.slice A l.length c, .slice B l.length d] w fun e w' => e = .returned (.bool true) ∧ Below w.heap.size w w' := by
  obtain ⟨k, hk⟩ := (same_refl l (by omega)).rounds
  exact (codicilref24_Same.calls k A c l B d l true w (G_C ha) (G_len ha).2 (G_C hb) (G_len hb).2 hk).mono fun _ _ h => ⟨h.1, h.2.below⟩
/-- Two new logs. -/
theorem Twin.of_live {g g2 : Nat} {w0 w w1 : World} {st st2 : LS} (h : Live g w0 w st) (_hs : w.heap.size ≤ w1.heap.size) (hb1 : Below w.heap.size w w1) (h2 : Live g2 w w1 st2) : Twin g g2 w0 w1 st st2 (fun k => w0.heap.size ≤ k) := by
  obtain ⟨a1, a2, a3, lv, a4⟩ := h
  obtain ⟨c1, c2, c3, lv2, c4⟩ := h2
  have hl := a4.lt
  have hs0 := a3.size
  exact ⟨a1, c1, fun k hk => hk, a2, by omega, by omega, below_then a3 hs0 hb1, _, _, lv, lv2, (a4.bound).below hb1, c4, fun k hk => hk.1, fun k hk => by omega, fun k hk hk2 => by have := hk.2; omega, fun h => by have := h.2; omega, fun h => by omega⟩

set_option maxHeartbeats 4000000 in
set_option maxRecDepth 100000 in
theorem compacts_main (script : List S45) (index : Int) {w : World} {A0 : Option Addr} {c0 : Nat} (hS : Kd.C k45 w A0 script.length script) (hc0 : script.length ≤ c0)
    (hpos : ∀ s, s ∈ script → 0 ≤ s.f1) (hlight : script.length ≤ 60 ∧ ∀ s, s ∈ script → s.f3.length ≤ 4096 ∧ ∀ e, e ∈ s.f3 → e.f4.length ≤ 4096) (hh : heavyS script = false) (hi : 0 ≤ index) (_hi2 : index ≤ 18446744073709551615) :
    Calls Try.prog 6 #[.slice A0 script.length c0, .int .u64 index] w fun e w' => e = .returned (.bool true) ∧ Below w.heap.size w w' := by
  have HS := Lib.hid hS
  have HPos := Lib.hid hpos
  have HLt := Lib.hid hlight.2
  have hs60 := hlight.1
  clear hS hpos hlight
  go_enter Try.func6, Try.ntmps6
  go_wp2_with fail
  refine (heavy_calls script HS.out hc0).mono ?_
  rw [hh]
  rintro e w1 ⟨rfl, hb⟩
  have HB1 := Lib.hid hb
  clear hb
  go_wp2_with fail
  refine (live_new 0 0 [1, 2, 3] (RV_lit w1 [1, 2, 3] (by decide)) (by kernel_rfl)).mono ?_
  rintro e w3 ⟨g, rfl, hL⟩
  have hL0 := hL (Int.le_refl _)
  have HL := Lib.hid (show Live g w w3 st0 from by
    obtain ⟨h1, h2, h3, lv, h4⟩ := hL0
    have hs2 := HB1.out.size
    simp at h2
    exact ⟨h1, by omega, below_then HB1.out hs2 (below_then (below_alloc (Below.refl _ _) _) (by simp) h3), lv, h4.mono (fun k hk => by simp at hk; omega)⟩)
  clear hL hL0
  go_wp2_with fail
  refine (live_new 0 0 [1, 2, 3] (RV_lit w3 [1, 2, 3] (by decide)) (by kernel_rfl)).mono ?_
  rintro e w4 ⟨g2, rfl, hL⟩
  have hL0 := hL (Int.le_refl _)
  have HT := Lib.hid (show Twin g g2 w w4 st0 st0 (fun k => w.heap.size ≤ k) from by
    obtain ⟨h1, h2, h3, lv, h4⟩ := hL0
    simp at h2
    have hb3 : Below w3.heap.size w3 w4 := below_then (below_alloc (Below.refl _ _) _) (by simp) h3
    exact Twin.of_live HL.out hb3.size hb3 ⟨h1, by omega, hb3, lv, h4.mono (fun k hk => by simp at hk; omega)⟩)
  clear hL hL0 HL
  go_wp2_with fail
  go_loopw [9] (fun i wr => ∃ k : Nat, k ≤ script.length ∧ i = .int .i64 k ∧ ∃ st, st.index = 0 ∧ Twin g g2 w wr st st (fun k => w.heap.size ≤ k)) (fun i _ => script.length - (intOf i).toNat)
  case atStart => exact ⟨0, Nat.zero_le _, rfl, st0, rfl, HT.out⟩
  case round =>
    obtain ⟨k, hk, rfl, st, hix, hTk⟩ := hrel
    have HTk := Lib.hid hTk
    have HIx := Lib.hid hix
    clear hTk HT hix
    by_cases hlt : k < script.length
    · have q1 : IntKind.i64.wrap ((k : Int) + 1) = (k + 1 : Nat) := IntWalk.i64_in _ (by omega)
      obtain ⟨ad, B3, d3, rfl, e0, e1, e2, e3, e4, hl3, hC3⟩ := at_T45 HS.out (k : Int) (by omega) (by omega)
      replace e0 := (HTk.out.below.cell (World.block_lt_of_cell? w _ e0)).trans e0
      replace e1 := (HTk.out.below.cell (World.block_lt_of_cell? w _ e1)).trans e1
      replace e2 := (HTk.out.below.cell (World.block_lt_of_cell? w _ e2)).trans e2
      replace e3 := (HTk.out.below.cell (World.block_lt_of_cell? w _ e3)).trans e3
      replace e4 := (HTk.out.below.cell (World.block_lt_of_cell? w _ e4)).trans e4
      rw [rdS_nat script k hlt] at e0 e1 e2 e3 e4 hl3 hC3
      simp only [Int.toNat_natCast] at e0 e1 e2 e3 e4
      have hlt3 := HLt.out script[k] (List.getElem_mem _)
      have hp1 := HPos.out script[k] (List.getElem_mem _)
      generalize script[k] = s at *
      have HC3 := Lib.hid hC3
      have HL3 := Lib.hid hlt3
      clear hC3 hlt3
      by_cases hs0 : s.f0 = 0
      · have hs0' : (s.f0 == 0) = true := by simpa using hs0
        by_cases hl0 : s.f3.length = 0
        · go_wp2_with fail
          exact ⟨⟨k + 1, by omega, by simp, st, HIx.out, HTk.out.down (below_alloc (Below.refl _ _) _)⟩, by simp [intOf]; omega⟩
        · have p0 : 0 < s.f3.length := by omega
          have p1 : 1 ≤ s.f3.length := by omega
          obtain ⟨x, hx⟩ : ∃ x, s.f3.take 1 = [x] ∧ x ∈ s.f3 := by
            cases h : s.f3 with
            | nil => rw [h] at p0; simp at p0
            | cons x r => exact ⟨x, rfl, by simp⟩
          have HX := Lib.hid hx
          have hC1 := Kd.C_take HC3.out (m := 1) (by omega)
          rw [hx.1] at hC1
          have HC1 := Lib.hid hC1
          clear hC1 hx
          have hgk : g < wr.heap.size ∧ g2 < wr.heap.size := by obtain ⟨_, _, _, _, _, _, _, _, _, lv, lv2, h, h2, _⟩ := HTk.out; exact ⟨h.lt, h2.lt⟩
          have hwr : w.heap.size ≤ wr.heap.size := HTk.out.below.size
          have HWa := Lib.hid (fun o => below_alloc (Below.refl wr.heap.size wr) o)
          have HBx := Lib.hid (fun o => blk_new wr o)
          have hsa : ∀ o, (wr.alloc o).heap.size = wr.heap.size + 1 := fun o => World.size_alloc _ _
          go_wp2_with fail
          have HBox := Lib.hid (HBx.out (.cells #[.int .i64 0, .int .u64 s.f1, .int .u64 s.f2, .slice B3 s.f3.length d3, .int .i64 s.f4] 45))
          have HTa := Lib.hid (HTk.out.now.down (HWa.out (.cells #[.int .i64 0, .int .u64 s.f1, .int .u64 s.f2, .slice B3 s.f3.length d3, .int .i64 s.f4] 45)))
          have hsz := hsa (.cells #[.int .i64 0, .int .u64 s.f1, .int .u64 s.f2, .slice B3 s.f3.length d3, .int .i64 s.f4] 45)
          clear hsa HWa HBx
          generalize (wr.alloc (.cells #[.int .i64 0, .int .u64 s.f1, .int .u64 s.f2, .slice B3 s.f3.length d3, .int .i64 s.f4] 45)) = wa at *
          have b3 := blk_cell HBox.out 3
          simp only [List.getElem?_toArray, List.getElem?_cons_succ, List.getElem?_cons_zero] at b3
          have HSS : ∀ w', Fr wa w' (fun _ => False) → (fun w' => w'.cell? ⟨wr.heap.size, 3, none⟩ = some (.slice B3 s.f3.length d3)) w' := fun w' hf => hf.cell (fun h => h) b3
          clear e0 e1 e2 e3 e4 b3
          have p2 : (1 : Int) ≤ (d3 : Int) := by omega
          refine start_ (n := 10) (S := (fun w' => w'.cell? ⟨wr.heap.size, 3, none⟩ = some (.slice B3 s.f3.length d3))) (ds := []) #[false, false, false, false, false, false, false, false, false, false] (by kernel_rfl) rfl rfl (by exact HSS _ (Fr.refl wa _).drew) (fun hHeld => ?_)
          refine pure_ (i := 0) (N := some 76) (v := ?_) (a' := ?_) #[true, false, false, false, false, false, false, false, false, false] rfl rfl (by kernel_rfl) (fun _ _ _ h => h) (Or.inl ⟨by rfl, ?_⟩) ?_ ?_   -- fieldAddr
          rotate_left
          · intro w'
            go_simp
            with_reducible rfl
          rotate_left
          · simp only [Act.put, List.setIfInBounds_toArray, List.set_cons_zero, List.set_cons_succ]
            rfl
          refine pure_ (i := 4) (N := some 80) (v := ?_) (a' := ?_) #[true, false, false, false, true, false, false, false, false, false] rfl rfl (by kernel_rfl) (fun _ _ _ h => h) (Or.inl ⟨by rfl, ?_⟩) ?_ ?_   -- fieldAddr
          rotate_left
          · intro w'
            go_simp
            with_reducible rfl
          rotate_left
          · simp only [Act.put, List.setIfInBounds_toArray, List.set_cons_zero, List.set_cons_succ]
            rfl
          refine take_ (i := 1) (N := some 77) (v := ?_) (a' := ?_) #[true, true, false, false, true, false, false, false, false, false] rfl rfl (by kernel_rfl) (fun _ _ _ h => h) (Or.inl ⟨by rfl, ?_⟩) hHeld ?_ ?_   -- Go.Op.load 33 (Go.Operand.tmp 76)
          rotate_left
          · rintro w' s0
            go_simp
            with_reducible rfl
          rotate_left
          · simp only [Act.put, List.setIfInBounds_toArray, List.set_cons_zero, List.set_cons_succ]
            rfl
          refine pure_ (i := 2) (N := some 78) (v := ?_) (a' := ?_) #[true, true, true, false, true, false, false, false, false, false] rfl rfl (by kernel_rfl) (fun _ _ _ h => h) (Or.inl ⟨by rfl, ?_⟩) ?_ ?_   -- slice
          rotate_left
          · intro w'
            go_simp
            with_reducible rfl
          rotate_left
          · simp only [Act.put, List.setIfInBounds_toArray, List.set_cons_zero, List.set_cons_succ]
            rfl
          refine take_ (i := 5) (N := some 81) (v := ?_) (a' := ?_) #[true, true, true, false, true, true, false, false, false, false] rfl rfl (by kernel_rfl) (fun _ _ _ h => h) (Or.inl ⟨by rfl, ?_⟩) hHeld ?_ ?_   -- Go.Op.load 33 (Go.Operand.tmp 80)
          rotate_left
          · rintro w' s0
            go_simp
            with_reducible rfl
          rotate_left
          · simp only [Act.put, List.setIfInBounds_toArray, List.set_cons_zero, List.set_cons_succ]
            rfl
          refine pure_ (i := 6) (N := some 82) (v := ?_) (a' := ?_) #[true, true, true, false, true, true, true, false, false, false] rfl rfl (by kernel_rfl) (fun _ _ _ h => h) (Or.inl ⟨by rfl, ?_⟩) ?_ ?_   -- slice
          rotate_left
          · intro w'
            go_simp
            with_reducible rfl
          rotate_left
          · simp only [Act.put, List.setIfInBounds_toArray, List.set_cons_zero, List.set_cons_succ]
            rfl
          refine one_ (i := 3) (N := some 79) #[true, true, true, true, true, true, true, false, false, false] rfl rfl (by kernel_rfl) (by decide) (fun K hK => ?_)   -- Go.Op.call { callee := Go.Callee.value (Go.Operand.func 17), args := #[Go.Operand.tmp 78], argTypes := #[33] }
          refine goes_ Try.func17 (by kernel_rfl) rfl #[.slice B3 1 d3] (by rfl) rfl rfl (by simp only [List.map_toArray, List.map_cons, List.map_nil]; rfl) ?_
          refine (copied_any [x] (Kd.C_drew (Kd.C_below HC1.out HTa.out.below)) (by simp) (fun e he => by rw [List.mem_singleton.1 he]; exact (HL3.out.2 x HX.out.2))).mono ?_
          rintro e w5 ⟨v5, rfl, hG5, hb5⟩
          have HB5 := Lib.hid (below_then (below_drew (Below.refl wa.heap.size wa)) (Nat.le_refl _) hb5)
          have HG5 := Lib.hid (G_mono hG5 (ok' := fun b => wa.heap.size ≤ b) (fun b hb => hb))
          obtain ⟨Av5, cv5, rfl, _⟩ := G_slice hG5
          clear hG5 hb5
          refine ⟨_, rfl, ?_⟩
          refine hK.out _ _ (HSS _ (Fr.of_below HB5.out _)) (fun hHeld => ?_)
          clear hK K
          refine norm_ (a' := ?_) ?_ ?_
          rotate_left
          · show Act.put _ (some 79) _ = _
            simp only [Act.put, List.setIfInBounds_toArray, List.set_cons_zero, List.set_cons_succ]
            rfl
          refine one_ (i := 7) (N := some 83) #[true, true, true, true, true, true, true, true, false, false] rfl rfl (by kernel_rfl) (by decide) (fun K hK => ?_)   -- Go.Op.call { callee := Go.Callee.value (Go.Operand.func 17), args := #[Go.Operand.tmp 82], argTypes := #[33] }
          refine goes_ Try.func17 (by kernel_rfl) rfl #[.slice B3 1 d3] (by rfl) rfl rfl (by simp only [List.map_toArray, List.map_cons, List.map_nil]; rfl) ?_
          refine (copied_any [x] (Kd.C_below HC1.out (HTa.out.down HB5.out).below) (by simp) (fun e he => by rw [List.mem_singleton.1 he]; exact (HL3.out.2 x HX.out.2))).mono ?_
          rintro e w6 ⟨v6, rfl, hG6, hb6⟩
          have HB6 := Lib.hid hb6
          have HG6 := Lib.hid hG6
          obtain ⟨Av6, cv6, rfl, _⟩ := G_slice hG6
          clear hG6 hb6
          refine ⟨_, rfl, ?_⟩
          refine hK.out _ _ (HSS _ ((Fr.of_below HB5.out _).then_below HB6.out)) (fun hHeld => ?_)
          clear hK K
          refine norm_ (a' := ?_) ?_ ?_
          rotate_left
          · show Act.put _ (some 83) _ = _
            simp only [Act.put, List.setIfInBounds_toArray, List.set_cons_zero, List.set_cons_succ]
            rfl
          refine pure_ (i := 8) (N := some 11) (v := ?_) (a' := ?_) #[true, true, true, true, true, true, true, true, true, false] rfl rfl (by kernel_rfl) (fun _ _ _ h => h) (Or.inl ⟨by rfl, ?_⟩) ?_ ?_   -- assign
          rotate_left
          · intro w'
            go_simp
            with_reducible rfl
          rotate_left
          · simp only [Act.put, List.setIfInBounds_toArray, List.set_cons_zero, List.set_cons_succ]
            rfl
          refine pure_ (i := 9) (N := some 12) (v := ?_) (a' := ?_) #[true, true, true, true, true, true, true, true, true, true] rfl rfl (by kernel_rfl) (fun _ _ _ h => h) (Or.inl ⟨by rfl, ?_⟩) ?_ ?_   -- assign
          rotate_left
          · intro w'
            go_simp
            with_reducible rfl
          rotate_left
          · simp only [Act.put, List.setIfInBounds_toArray, List.set_cons_zero, List.set_cons_succ]
            rfl
          refine done_ (by kernel_rfl) ?_
          clear HSS hHeld
          have hs5 : wa.heap.size ≤ w5.heap.size := HB5.out.size
          have HT6 := Lib.hid ((HTa.out.down HB5.out).down HB6.out)
          obtain ⟨b5, off5, A5, c5, h5, ho5, g0, g1, g2', g3, g4, hl5, hF5⟩ := G_ent (G_below HG5.out HB6.out) 0 (by simp)
          obtain ⟨b6, off6, A6, c6, h6, ho6, j0, j1, j2, j3, j4, hl6, hF6⟩ := G_ent HG6.out 0 (by simp)
          subst h5 h6
          simp only [List.getElem_cons_zero, Nat.zero_mul, Nat.add_zero] at g0 g1 g2' g3 g4 j0 j1 j2 j3 j4 hl5 hF5 hl6 hF6
          have HR5 := Lib.hid (show RV (Kd.int .i64) w6 _ (.slice A5 x.f4.length c5) x.f4 from ⟨A5, c5, rfl, hl5, hF5⟩)
          have HR6 := Lib.hid (show RV (Kd.int .i64) w6 (fun b => w5.heap.size ≤ b) (.slice A6 x.f4.length c6) x.f4 from ⟨A6, c6, rfl, hl6, hF6⟩)
          have HSS : ∀ w', Fr w6 w' (fun k => w.heap.size ≤ k ∧ k < wr.heap.size) → (fun w' => w'.cell? ⟨b5, off5, none⟩ = some (.int .u64 x.f0) ∧ w'.cell? ⟨b5, off5 + 1, none⟩ = some (.int .u64 x.f1) ∧ w'.cell? ⟨b5, off5 + 2, none⟩ = some (.int .u8 x.f2) ∧ w'.cell? ⟨b5, off5 + 3, none⟩ = some (.string x.f3) ∧ w'.cell? ⟨b5, off5 + 4, none⟩ = some (.slice A5 x.f4.length c5) ∧ w'.cell? ⟨b6, off6, none⟩ = some (.int .u64 x.f0) ∧ w'.cell? ⟨b6, off6 + 1, none⟩ = some (.int .u64 x.f1) ∧ w'.cell? ⟨b6, off6 + 2, none⟩ = some (.int .u8 x.f2) ∧ w'.cell? ⟨b6, off6 + 3, none⟩ = some (.string x.f3) ∧ w'.cell? ⟨b6, off6 + 4, none⟩ = some (.slice A6 x.f4.length c6)) w' := fun w' hf =>
            have n5 : ¬ (w.heap.size ≤ b5 ∧ b5 < wr.heap.size) := by omega
            have n6 : ¬ (w.heap.size ≤ b6 ∧ b6 < wr.heap.size) := by omega
            ⟨hf.cell n5 g0, hf.cell n5 g1, hf.cell n5 g2', hf.cell n5 g3, hf.cell n5 g4, hf.cell n6 j0, hf.cell n6 j1, hf.cell n6 j2, hf.cell n6 j3, hf.cell n6 j4⟩
          clear g0 g1 g2' g3 g4 j0 j1 j2 j3 j4 hl5 hF5 hl6 hF6
          go_wp2_with fail
          refine start_ (n := 11) (S := (fun w' => w'.cell? ⟨b5, off5, none⟩ = some (.int .u64 x.f0) ∧ w'.cell? ⟨b5, off5 + 1, none⟩ = some (.int .u64 x.f1) ∧ w'.cell? ⟨b5, off5 + 2, none⟩ = some (.int .u8 x.f2) ∧ w'.cell? ⟨b5, off5 + 3, none⟩ = some (.string x.f3) ∧ w'.cell? ⟨b5, off5 + 4, none⟩ = some (.slice A5 x.f4.length c5) ∧ w'.cell? ⟨b6, off6, none⟩ = some (.int .u64 x.f0) ∧ w'.cell? ⟨b6, off6 + 1, none⟩ = some (.int .u64 x.f1) ∧ w'.cell? ⟨b6, off6 + 2, none⟩ = some (.int .u8 x.f2) ∧ w'.cell? ⟨b6, off6 + 3, none⟩ = some (.string x.f3) ∧ w'.cell? ⟨b6, off6 + 4, none⟩ = some (.slice A6 x.f4.length c6))) (ds := [9]) #[false, false, false, false, false, false, false, false, false, false, false] (by kernel_rfl) rfl rfl (by exact HSS _ (Fr.refl w6 _).drew) (fun hHeld => ?_)
          refine pure_ (i := 0) (N := some 84) (v := ?_) (a' := ?_) #[true, false, false, false, false, false, false, false, false, false, false] rfl rfl (by kernel_rfl) (fun _ _ _ h => h) (Or.inl ⟨by rfl, ?_⟩) ?_ ?_   -- move
          rotate_left
          · intro w'
            go_simp
            with_reducible rfl
          rotate_left
          · simp only [Act.put, List.setIfInBounds_toArray, List.set_cons_zero, List.set_cons_succ]
            rfl
          refine pure_ (i := 1) (N := some 85) (v := ?_) (a' := ?_) #[true, true, false, false, false, false, false, false, false, false, false] rfl rfl (by kernel_rfl) (fun _ _ _ h => h) (Or.inl ⟨by rfl, ?_⟩) ?_ ?_   -- move
          rotate_left
          · intro w'
            go_simp
            with_reducible rfl
          rotate_left
          · simp only [Act.put, List.setIfInBounds_toArray, List.set_cons_zero, List.set_cons_succ]
            rfl
          refine pure_ (i := 2) (N := some 86) (v := ?_) (a' := ?_) #[true, true, true, false, false, false, false, false, false, false, false] rfl rfl (by kernel_rfl) (fun _ _ _ h => h) (Or.inl ⟨by rfl, ?_⟩) ?_ ?_   -- indexAddr
          rotate_left
          · intro w'
            go_simp
            with_reducible rfl
          rotate_left
          · simp only [Act.put, List.setIfInBounds_toArray, List.set_cons_zero, List.set_cons_succ]
            rfl
          refine pure_ (i := 5) (N := some 89) (v := ?_) (a' := ?_) #[true, true, true, false, false, true, false, false, false, false, false] rfl rfl (by kernel_rfl) (fun _ _ _ h => h) (Or.inl ⟨by rfl, ?_⟩) ?_ ?_   -- move
          rotate_left
          · intro w'
            go_simp
            with_reducible rfl
          rotate_left
          · simp only [Act.put, List.setIfInBounds_toArray, List.set_cons_zero, List.set_cons_succ]
            rfl
          refine pure_ (i := 6) (N := some 90) (v := ?_) (a' := ?_) #[true, true, true, false, false, true, true, false, false, false, false] rfl rfl (by kernel_rfl) (fun _ _ _ h => h) (Or.inl ⟨by rfl, ?_⟩) ?_ ?_   -- move
          rotate_left
          · intro w'
            go_simp
            with_reducible rfl
          rotate_left
          · simp only [Act.put, List.setIfInBounds_toArray, List.set_cons_zero, List.set_cons_succ]
            rfl
          refine pure_ (i := 7) (N := some 91) (v := ?_) (a' := ?_) #[true, true, true, false, false, true, true, true, false, false, false] rfl rfl (by kernel_rfl) (fun _ _ _ h => h) (Or.inl ⟨by rfl, ?_⟩) ?_ ?_   -- indexAddr
          rotate_left
          · intro w'
            go_simp
            with_reducible rfl
          rotate_left
          · simp only [Act.put, List.setIfInBounds_toArray, List.set_cons_zero, List.set_cons_succ]
            rfl
          refine take_ (i := 3) (N := some 87) (v := ?_) (a' := ?_) #[true, true, true, true, false, true, true, true, false, false, false] rfl rfl (by kernel_rfl) (fun _ _ _ h => h) (Or.inl ⟨by rfl, ?_⟩) hHeld ?_ ?_   -- Go.Op.load 31 (Go.Operand.tmp 86)
          rotate_left
          · rintro w' ⟨s0, s1, s2, s3, s4, s5, s6, s7, s8, s9⟩
            go_simp
            with_reducible rfl
          rotate_left
          · simp only [Act.put, List.setIfInBounds_toArray, List.set_cons_zero, List.set_cons_succ]
            rfl
          refine take_ (i := 8) (N := some 92) (v := ?_) (a' := ?_) #[true, true, true, true, false, true, true, true, true, false, false] rfl rfl (by kernel_rfl) (fun _ _ _ h => h) (Or.inl ⟨by rfl, ?_⟩) hHeld ?_ ?_   -- Go.Op.load 31 (Go.Operand.tmp 91)
          rotate_left
          · rintro w' ⟨s0, s1, s2, s3, s4, s5, s6, s7, s8, s9⟩
            go_simp
            with_reducible rfl
          rotate_left
          · simp only [Act.put, List.setIfInBounds_toArray, List.set_cons_zero, List.set_cons_succ]
            rfl
          refine one_ (i := 4) (N := some 88) #[true, true, true, true, true, true, true, true, true, false, false] rfl rfl (by kernel_rfl) (by decide) (fun K hK => ?_)   -- Go.Op.call { callee := Go.Callee.value (Go.Operand.func 9), args := #[Go.Operand.tmp 84, Go.Operand.tmp 87], a
          refine goes_ Try.func9 (by kernel_rfl) rfl #[.pointer (some ⟨g, 0, none⟩), entV x (.slice A5 x.f4.length c5)] (by rfl) rfl rfl (by simp only [List.map_toArray, List.map_cons, List.map_nil]; rfl) ?_
          refine (twin_append (HT6.out.down (below_drew (Below.refl _ _))) x _ (RV_below HR5.out (below_drew (Below.refl _ _)))).mono ?_
          rintro e w7 ⟨rfl, h7, hF7⟩
          have HT7 := Lib.hid h7
          have HF7 := Lib.hid ((Fr.of_below (below_drew (Below.refl w6.heap.size w6)) (fun k => w.heap.size ≤ k ∧ k < wr.heap.size)).trans hF7 (fun k hk => .inl hk))
          clear h7 hF7
          refine ⟨_, rfl, ?_⟩
          refine hK.out _ _ (HSS _ HF7.out) (fun hHeld => ?_)
          clear hK K
          refine norm_ (a' := ?_) ?_ ?_
          rotate_left
          · show Act.put _ (some 88) _ = _
            simp only [Act.put, List.setIfInBounds_toArray, List.set_cons_zero, List.set_cons_succ]
            rfl
          refine last_ (i := 9) (N := some 93) #[true, true, true, true, true, true, true, true, true, true, false] rfl rfl (by kernel_rfl) (by decide) (fun K hK => ?_)   -- Go.Op.call { callee := Go.Callee.value (Go.Operand.func 9), args := #[Go.Operand.tmp 89, Go.Operand.tmp 92], a
          refine goes_ Try.func9 (by kernel_rfl) rfl #[.pointer (some ⟨g2, 0, none⟩), entV x (.slice A6 x.f4.length c6)] (by rfl) rfl rfl (by simp only [List.map_toArray, List.map_cons, List.map_nil]; rfl) ?_
          refine (twin_append HT7.out.swap x _ (RV_fr HR6.out HF7.out (fun k hk h => by omega))).mono ?_
          rintro e w8 ⟨rfl, h8, _⟩
          have HT8 := Lib.hid h8
          clear h8
          refine ⟨_, rfl, ?_⟩
          refine hK.out _ _ ?_
          clear hK K
          refine norm_ (a' := ?_) ?_ ?_
          rotate_left
          · show Act.put _ (some 93) _ = _
            simp only [Act.put, List.setIfInBounds_toArray, List.set_cons_zero, List.set_cons_succ]
            rfl
          refine pure_ (i := 10) (N := some 94) (v := ?_) (a' := ?_) #[true, true, true, true, true, true, true, true, true, true, true] rfl rfl (by kernel_rfl) (fun _ _ _ h => h) (Or.inl ⟨by rfl, ?_⟩) ?_ ?_   -- binOp
          rotate_left
          · intro w'
            go_simp
            with_reducible rfl
          rotate_left
          · simp only [Act.put, List.setIfInBounds_toArray, List.set_cons_zero, List.set_cons_succ]
            rfl
          refine done_ (by kernel_rfl) ?_
          clear HSS hHeld
          go_wp2_with fail
          exact ⟨⟨k + 1, by omega, by simp, _, (append_index st x).trans HIx.out, HT8.out.swap.wider HT8.out.ge (fun k h => h)⟩, by simp [intOf]; omega⟩
      have hs0' : (s.f0 == 0) = false := by simpa using hs0
      by_cases hs1 : s.f0 = 1
      · have hs1' : (s.f0 == 1) = true := by simpa using hs1
        have hgk : g < wr.heap.size ∧ g2 < wr.heap.size := by obtain ⟨_, _, _, _, _, _, _, _, _, lv, lv2, h, h2, _⟩ := HTk.out; exact ⟨h.lt, h2.lt⟩
        have hwr : w.heap.size ≤ wr.heap.size := HTk.out.below.size
        have HWa := Lib.hid (fun o => below_alloc (Below.refl wr.heap.size wr) o)
        have HBx := Lib.hid (fun o => blk_new wr o)
        have hsa : ∀ o, (wr.alloc o).heap.size = wr.heap.size + 1 := fun o => World.size_alloc _ _
        go_wp2_with fail
        have HBox := Lib.hid (HBx.out (.cells #[.int .i64 1, .int .u64 s.f1, .int .u64 s.f2, .slice B3 s.f3.length d3, .int .i64 s.f4] 45))
        have HTa := Lib.hid (HTk.out.now.down (HWa.out (.cells #[.int .i64 1, .int .u64 s.f1, .int .u64 s.f2, .slice B3 s.f3.length d3, .int .i64 s.f4] 45)))
        have hsz := hsa (.cells #[.int .i64 1, .int .u64 s.f1, .int .u64 s.f2, .slice B3 s.f3.length d3, .int .i64 s.f4] 45)
        clear hsa HWa HBx
        generalize (wr.alloc (.cells #[.int .i64 1, .int .u64 s.f1, .int .u64 s.f2, .slice B3 s.f3.length d3, .int .i64 s.f4] 45)) = wa at *
        have hbox : ∀ (x : World), x.heap[wr.heap.size]? = some (.cells #[.int .i64 1, .int .u64 s.f1, .int .u64 s.f2, .slice B3 s.f3.length d3, .int .i64 s.f4] 45 (0, 0)) → ∀ w', Fr x w' (fun _ => False) → (fun w' => w'.cell? ⟨wr.heap.size, 1, none⟩ = some (.int .u64 s.f1) ∧ w'.cell? ⟨wr.heap.size, 2, none⟩ = some (.int .u64 s.f2) ∧ w'.cell? ⟨wr.heap.size, 3, none⟩ = some (.slice B3 s.f3.length d3)) w' := fun x hb w' hf => by
          have h := hf.blk (fun h => h) hb
          exact ⟨blk_cell h 1, blk_cell h 2, blk_cell h 3⟩
        have HSS := hbox wa HBox.out
        have HBB := Lib.hid hbox
        clear e0 e1 e2 e3 e4 hbox
        refine start_ (n := 9) (S := (fun w' => w'.cell? ⟨wr.heap.size, 1, none⟩ = some (.int .u64 s.f1) ∧ w'.cell? ⟨wr.heap.size, 2, none⟩ = some (.int .u64 s.f2) ∧ w'.cell? ⟨wr.heap.size, 3, none⟩ = some (.slice B3 s.f3.length d3))) (ds := [8]) #[false, false, false, false, false, false, false, false, false] (by kernel_rfl) rfl rfl (by exact HSS _ (Fr.refl wa _).drew) (fun hHeld => ?_)
        refine pure_ (i := 0) (N := some 97) (v := ?_) (a' := ?_) #[true, false, false, false, false, false, false, false, false] rfl rfl (by kernel_rfl) (fun _ _ _ h => h) (Or.inl ⟨by rfl, ?_⟩) ?_ ?_   -- move
        rotate_left
        · intro w'
          go_simp
          with_reducible rfl
        rotate_left
        · simp only [Act.put, List.setIfInBounds_toArray, List.set_cons_zero, List.set_cons_succ]
          rfl
        refine pure_ (i := 1) (N := some 98) (v := ?_) (a' := ?_) #[true, true, false, false, false, false, false, false, false] rfl rfl (by kernel_rfl) (fun _ _ _ h => h) (Or.inl ⟨by rfl, ?_⟩) ?_ ?_   -- fieldAddr
        rotate_left
        · intro w'
          go_simp
          with_reducible rfl
        rotate_left
        · simp only [Act.put, List.setIfInBounds_toArray, List.set_cons_zero, List.set_cons_succ]
          rfl
        refine pure_ (i := 3) (N := some 100) (v := ?_) (a' := ?_) #[true, true, false, true, false, false, false, false, false] rfl rfl (by kernel_rfl) (fun _ _ _ h => h) (Or.inl ⟨by rfl, ?_⟩) ?_ ?_   -- fieldAddr
        rotate_left
        · intro w'
          go_simp
          with_reducible rfl
        rotate_left
        · simp only [Act.put, List.setIfInBounds_toArray, List.set_cons_zero, List.set_cons_succ]
          rfl
        refine pure_ (i := 5) (N := some 102) (v := ?_) (a' := ?_) #[true, true, false, true, false, true, false, false, false] rfl rfl (by kernel_rfl) (fun _ _ _ h => h) (Or.inl ⟨by rfl, ?_⟩) ?_ ?_   -- fieldAddr
        rotate_left
        · intro w'
          go_simp
          with_reducible rfl
        rotate_left
        · simp only [Act.put, List.setIfInBounds_toArray, List.set_cons_zero, List.set_cons_succ]
          rfl
        refine take_ (i := 2) (N := some 99) (v := ?_) (a' := ?_) #[true, true, true, true, false, true, false, false, false] rfl rfl (by kernel_rfl) (fun _ _ _ h => h) (Or.inl ⟨by rfl, ?_⟩) hHeld ?_ ?_   -- Go.Op.load 27 (Go.Operand.tmp 98)
        rotate_left
        · rintro w' ⟨s0, s1, s2⟩
          go_simp
          with_reducible rfl
        rotate_left
        · simp only [Act.put, List.setIfInBounds_toArray, List.set_cons_zero, List.set_cons_succ]
          rfl
        refine take_ (i := 4) (N := some 101) (v := ?_) (a' := ?_) #[true, true, true, true, true, true, false, false, false] rfl rfl (by kernel_rfl) (fun _ _ _ h => h) (Or.inl ⟨by rfl, ?_⟩) hHeld ?_ ?_   -- Go.Op.load 27 (Go.Operand.tmp 100)
        rotate_left
        · rintro w' ⟨s0, s1, s2⟩
          go_simp
          with_reducible rfl
        rotate_left
        · simp only [Act.put, List.setIfInBounds_toArray, List.set_cons_zero, List.set_cons_succ]
          rfl
        refine take_ (i := 6) (N := some 103) (v := ?_) (a' := ?_) #[true, true, true, true, true, true, true, false, false] rfl rfl (by kernel_rfl) (fun _ _ _ h => h) (Or.inl ⟨by rfl, ?_⟩) hHeld ?_ ?_   -- Go.Op.load 33 (Go.Operand.tmp 102)
        rotate_left
        · rintro w' ⟨s0, s1, s2⟩
          go_simp
          with_reducible rfl
        rotate_left
        · simp only [Act.put, List.setIfInBounds_toArray, List.set_cons_zero, List.set_cons_succ]
          rfl
        refine one_ (i := 7) (N := some 104) #[true, true, true, true, true, true, true, true, false] rfl rfl (by kernel_rfl) (by decide) (fun K hK => ?_)   -- Go.Op.call { callee := Go.Callee.value (Go.Operand.func 17), args := #[Go.Operand.tmp 103], argTypes := #[33] 
        refine goes_ Try.func17 (by kernel_rfl) rfl #[.slice B3 s.f3.length d3] (by rfl) rfl rfl (by simp only [List.map_toArray, List.map_cons, List.map_nil]; rfl) ?_
        refine (copied_any s.f3 (Kd.C_drew (Kd.C_below HC3.out HTa.out.below)) HL3.out.1 HL3.out.2).mono ?_
        rintro e w5 ⟨v5, rfl, hG5, hb5⟩
        have HB5 := Lib.hid (below_then (below_drew (Below.refl wa.heap.size wa)) (Nat.le_refl _) hb5)
        have HG5 := Lib.hid (G_mono hG5 (ok' := fun b => wa.heap.size ≤ b) (fun b hb => hb))
        clear hG5 hb5
        refine ⟨_, rfl, ?_⟩
        refine hK.out _ _ (HSS _ (Fr.of_below HB5.out _)) (fun hHeld => ?_)
        clear hK K
        refine norm_ (a' := ?_) ?_ ?_
        rotate_left
        · show Act.put _ (some 104) _ = _
          simp only [Act.put, List.setIfInBounds_toArray, List.set_cons_zero, List.set_cons_succ]
          rfl
        refine last_ (i := 8) (N := some 105) #[true, true, true, true, true, true, true, true, true] rfl rfl (by kernel_rfl) (by decide) (fun K hK => ?_)   -- Go.Op.call { callee := Go.Callee.value (Go.Operand.func 11), args := #[Go.Operand.tmp 97, Go.Operand.tmp 99, G
        refine goes_ Try.func11 (by kernel_rfl) rfl #[.pointer (some ⟨g, 0, none⟩), .int .u64 s.f1, .int .u64 s.f2, v5] (by rfl) rfl rfl (by simp only [List.map_toArray, List.map_cons, List.map_nil]; rfl) ?_
        refine (twin_store (HTa.out.down HB5.out) s.f1 s.f2 hp1 s.f3 HG5.out (by omega) HL3.out.1 HL3.out.2).mono ?_
        rintro e w6 ⟨v6, rfl, h6, hF6⟩
        have HT6 := Lib.hid h6
        have HF18 := Lib.hid hF6
        have HW18 := HB5
        clear h6 hF6
        refine ⟨_, rfl, ?_⟩
        refine hK.out _ _ ?_
        clear hK K
        refine norm_ (a' := ?_) ?_ ?_
        rotate_left
        · show Act.put _ (some 105) _ = _
          simp only [Act.put, List.setIfInBounds_toArray, List.set_cons_zero, List.set_cons_succ]
          rfl
        refine done_ (by kernel_rfl) ?_
        have HSS := HBB.out w6 (HF18.out.blk (by rintro ⟨h1, h2⟩; omega) ((Fr.of_below HW18.out (fun _ => False)).blk (fun h => h) HBox.out))
        have HT6s := Lib.hid HT6.out.swap
        have hw6 : wr.heap.size + 1 ≤ w6.heap.size := by have h1 := HW18.out.size; have h2 := HF18.out.size; omega
        go_wp2_with fail
        refine start_ (n := 9) (S := (fun w' => w'.cell? ⟨wr.heap.size, 1, none⟩ = some (.int .u64 s.f1) ∧ w'.cell? ⟨wr.heap.size, 2, none⟩ = some (.int .u64 s.f2) ∧ w'.cell? ⟨wr.heap.size, 3, none⟩ = some (.slice B3 s.f3.length d3))) (ds := [8]) #[false, false, false, false, false, false, false, false, false] (by kernel_rfl) rfl rfl (by exact HSS _ (Fr.refl w6 _).drew) (fun hHeld => ?_)
        refine pure_ (i := 0) (N := some 106) (v := ?_) (a' := ?_) #[true, false, false, false, false, false, false, false, false] rfl rfl (by kernel_rfl) (fun _ _ _ h => h) (Or.inl ⟨by rfl, ?_⟩) ?_ ?_   -- move
        rotate_left
        · intro w'
          go_simp
          with_reducible rfl
        rotate_left
        · simp only [Act.put, List.setIfInBounds_toArray, List.set_cons_zero, List.set_cons_succ]
          rfl
        refine pure_ (i := 1) (N := some 107) (v := ?_) (a' := ?_) #[true, true, false, false, false, false, false, false, false] rfl rfl (by kernel_rfl) (fun _ _ _ h => h) (Or.inl ⟨by rfl, ?_⟩) ?_ ?_   -- fieldAddr
        rotate_left
        · intro w'
          go_simp
          with_reducible rfl
        rotate_left
        · simp only [Act.put, List.setIfInBounds_toArray, List.set_cons_zero, List.set_cons_succ]
          rfl
        refine pure_ (i := 3) (N := some 109) (v := ?_) (a' := ?_) #[true, true, false, true, false, false, false, false, false] rfl rfl (by kernel_rfl) (fun _ _ _ h => h) (Or.inl ⟨by rfl, ?_⟩) ?_ ?_   -- fieldAddr
        rotate_left
        · intro w'
          go_simp
          with_reducible rfl
        rotate_left
        · simp only [Act.put, List.setIfInBounds_toArray, List.set_cons_zero, List.set_cons_succ]
          rfl
        refine pure_ (i := 5) (N := some 111) (v := ?_) (a' := ?_) #[true, true, false, true, false, true, false, false, false] rfl rfl (by kernel_rfl) (fun _ _ _ h => h) (Or.inl ⟨by rfl, ?_⟩) ?_ ?_   -- fieldAddr
        rotate_left
        · intro w'
          go_simp
          with_reducible rfl
        rotate_left
        · simp only [Act.put, List.setIfInBounds_toArray, List.set_cons_zero, List.set_cons_succ]
          rfl
        refine take_ (i := 2) (N := some 108) (v := ?_) (a' := ?_) #[true, true, true, true, false, true, false, false, false] rfl rfl (by kernel_rfl) (fun _ _ _ h => h) (Or.inl ⟨by rfl, ?_⟩) hHeld ?_ ?_   -- Go.Op.load 27 (Go.Operand.tmp 107)
        rotate_left
        · rintro w' ⟨s0, s1, s2⟩
          go_simp
          with_reducible rfl
        rotate_left
        · simp only [Act.put, List.setIfInBounds_toArray, List.set_cons_zero, List.set_cons_succ]
          rfl
        refine take_ (i := 4) (N := some 110) (v := ?_) (a' := ?_) #[true, true, true, true, true, true, false, false, false] rfl rfl (by kernel_rfl) (fun _ _ _ h => h) (Or.inl ⟨by rfl, ?_⟩) hHeld ?_ ?_   -- Go.Op.load 27 (Go.Operand.tmp 109)
        rotate_left
        · rintro w' ⟨s0, s1, s2⟩
          go_simp
          with_reducible rfl
        rotate_left
        · simp only [Act.put, List.setIfInBounds_toArray, List.set_cons_zero, List.set_cons_succ]
          rfl
        refine take_ (i := 6) (N := some 112) (v := ?_) (a' := ?_) #[true, true, true, true, true, true, true, false, false] rfl rfl (by kernel_rfl) (fun _ _ _ h => h) (Or.inl ⟨by rfl, ?_⟩) hHeld ?_ ?_   -- Go.Op.load 33 (Go.Operand.tmp 111)
        rotate_left
        · rintro w' ⟨s0, s1, s2⟩
          go_simp
          with_reducible rfl
        rotate_left
        · simp only [Act.put, List.setIfInBounds_toArray, List.set_cons_zero, List.set_cons_succ]
          rfl
        refine one_ (i := 7) (N := some 113) #[true, true, true, true, true, true, true, true, false] rfl rfl (by kernel_rfl) (by decide) (fun K hK => ?_)   -- Go.Op.call { callee := Go.Callee.value (Go.Operand.func 17), args := #[Go.Operand.tmp 112], argTypes := #[33] 
        refine goes_ Try.func17 (by kernel_rfl) rfl #[.slice B3 s.f3.length d3] (by rfl) rfl rfl (by simp only [List.map_toArray, List.map_cons, List.map_nil]; rfl) ?_
        refine (copied_any s.f3 (Kd.C_drew (Kd.C_below HC3.out HT6s.out.below)) HL3.out.1 HL3.out.2).mono ?_
        rintro e w5 ⟨v5, rfl, hG5, hb5⟩
        have HB5 := Lib.hid (below_then (below_drew (Below.refl w6.heap.size w6)) (Nat.le_refl _) hb5)
        have HG5 := Lib.hid (G_mono hG5 (ok' := fun b => w6.heap.size ≤ b) (fun b hb => hb))
        clear hG5 hb5
        refine ⟨_, rfl, ?_⟩
        refine hK.out _ _ (HSS _ (Fr.of_below HB5.out _)) (fun hHeld => ?_)
        clear hK K
        refine norm_ (a' := ?_) ?_ ?_
        rotate_left
        · show Act.put _ (some 113) _ = _
          simp only [Act.put, List.setIfInBounds_toArray, List.set_cons_zero, List.set_cons_succ]
          rfl
        refine last_ (i := 8) (N := some 114) #[true, true, true, true, true, true, true, true, true] rfl rfl (by kernel_rfl) (by decide) (fun K hK => ?_)   -- Go.Op.call { callee := Go.Callee.value (Go.Operand.func 11), args := #[Go.Operand.tmp 106, Go.Operand.tmp 108,
        refine goes_ Try.func11 (by kernel_rfl) rfl #[.pointer (some ⟨g2, 0, none⟩), .int .u64 s.f1, .int .u64 s.f2, v5] (by rfl) rfl rfl (by simp only [List.map_toArray, List.map_cons, List.map_nil]; rfl) ?_
        refine (twin_store (HT6s.out.down HB5.out) s.f1 s.f2 hp1 s.f3 HG5.out (by omega) HL3.out.1 HL3.out.2).mono ?_
        rintro e w7 ⟨v6, rfl, h6, hF6⟩
        have HT7 := Lib.hid h6
        have HF19 := Lib.hid hF6
        have HW19 := HB5
        clear h6 hF6
        refine ⟨_, rfl, ?_⟩
        refine hK.out _ _ ?_
        clear hK K
        refine norm_ (a' := ?_) ?_ ?_
        rotate_left
        · show Act.put _ (some 114) _ = _
          simp only [Act.put, List.setIfInBounds_toArray, List.set_cons_zero, List.set_cons_succ]
          rfl
        refine done_ (by kernel_rfl) ?_
        go_wp2_with fail
        exact ⟨⟨k + 1, by omega, by simp, _, (store_index st s.f1 s.f2 s.f3).trans HIx.out, HT7.out.swap.wider HT7.out.ge (fun k h => h)⟩, by simp [intOf]; omega⟩
      have hs1' : (s.f0 == 1) = false := by simpa using hs1
      go_wp2_with fail
      exact ⟨⟨k + 1, by omega, by simp, st, HIx.out, HTk.out.down (below_alloc (Below.refl _ _) _)⟩, by simp [intOf]; omega⟩
    · obtain rfl : k = script.length := by omega
      have hok := HTk.out.ok1
      have hlen := hok.len
      have hla : st.last.1 = (st.l.length : Int) := by rw [hok.last1, HIx.out]; omega
      obtain ⟨L, hL⟩ : ∃ L, st.l.length = L := ⟨_, rfl⟩
      rw [hL] at hla hlen
      obtain ⟨M, hM⟩ : ∃ M : Nat, Int.tmod index ((L : Int) + 1) = M := ⟨(Int.tmod index ((L : Int) + 1)).toNat, by have := Int.tmod_nonneg ((L : Int) + 1) hi; omega⟩
      have hM2 : M ≤ L := by have := Int.tmod_lt_of_pos index (show (0 : Int) < (L : Int) + 1 by omega); omega
      have q1 : IntKind.u64.wrap ((L : Int) + 1) = (L : Int) + 1 := IntWalk.u64_in _ (by omega)
      have q2 : IntKind.u64.wrap (M : Int) = M := IntWalk.u64_in _ (by omega)
      have p1 : (L : Int) ≤ 4096 := by omega
      have h0 : (st.termAt M).2 = 0 := termAt_ok hok (by rw [HIx.out]; omega) (by rw [HIx.out, hL]; omega)
      have H0 := Lib.hid h0
      have HL := Lib.hid hL
      have HLa := Lib.hid hla
      have HO := Lib.hid hok
      clear hok hL hla h0 hk
      go_wp2_with fail
      refine (live_last2 HTk.out.one).mono ?_
      rw [HLa.out]
      rintro e wA ⟨rfl, hA⟩
      have HTA := Lib.hid (HTk.out.down hA)
      clear hA HTk
      have p2 : ¬ (L : Int) + 1 = 0 := by omega
      have p3 : ((L : Int) + 1 == 0) = false := by simp; omega
      go_wp2_with fail
      refine (twin_compact HTA.out.swap M).mono ?_
      rw [compact_cut H0.out]
      rintro e wB ⟨rfl, hTB, _⟩
      have HTB := Lib.hid hTB
      have HC := Lib.hid (says_cut (x := st.last.1) HO.out (termAt_in HO.out H0.out).1 (termAt_in HO.out H0.out).2 (by rw [HLa.out]; omega))
      have HMx := Lib.hid (show ((st.cut M).says st.last.1).2 = (if (st.says st.last.1).2 < (M : Int) then (M : Int) else (st.says st.last.1).2) from by rw [HC.out.2]; split <;> omega)
      clear hTB HTA
      go_wp2_with fail
      refine (live_conf HTB.out.swap.one).mono ?_
      rintro e wC ⟨vc, rfl, hGc, _, hbC⟩
      have HTC := Lib.hid (HTB.out.down hbC)
      have HGc := Lib.hid hGc
      obtain ⟨Ac, cc, rfl, _⟩ := G_slice hGc
      clear hGc hbC HTB
      go_wp2_with fail
      refine (live_conf HTC.out.one).mono ?_
      rw [cut_last HO.out H0.out, HC.out.1, HMx.out]
      obtain ⟨mx, hmx⟩ : ∃ mx, (if (st.says st.last.1).2 < (M : Int) then (M : Int) else (st.says st.last.1).2) = mx := ⟨_, rfl⟩
      rw [hmx]
      have HMX := Lib.hid hmx
      clear hmx
      rintro e wD ⟨vd, rfl, hGd, _, hbD⟩
      have HTD := Lib.hid (HTC.out.down hbD)
      have HGc2 := Lib.hid (G_below HGc.out hbD)
      have HGd := Lib.hid hGd
      obtain ⟨Ad, cd, rfl, _⟩ := G_slice hGd
      clear hGd hbD HTC HGc
      have hsl := (confB_len (says_conf HO.out st.last.1)).2
      go_wp2_with fail
      refine (sameConf_calls _ HGc2.out HGd.out (by omega)).mono ?_
      rintro e wE ⟨rfl, hbE⟩
      have HTE := Lib.hid (HTD.out.down hbE)
      clear hbE HTD HGc2 HGd
      have hmx := HMX.out
      go_wp2_with fail
      go_loopw [20] (fun v ws => ∃ j : Nat, M ≤ j ∧ j ≤ L + 2 ∧ v = .int .u64 j ∧ Twin g2 g w ws (st.cut M) st (fun k => w.heap.size ≤ k)) (fun v _ => L + 2 - (intOf v).toNat)
      case atStart => exact ⟨M, Nat.le_refl _, by omega, rfl, HTE.out.wider HTE.out.ge (fun _ h => h)⟩
      case round =>
        obtain ⟨j, hMj, hjL, rfl, hTj⟩ := hrel
        have HTj := Lib.hid hTj
        clear hTj HTE
        by_cases hlt2 : j ≤ L + 1
        · have q3 : IntKind.u64.wrap ((j : Int) + 1) = (j + 1 : Nat) := IntWalk.u64_in _ (by omega)
          have p4 : (j : Int) ≤ (L : Int) + 1 := by omega
          have htc := term_cut HO.out H0.out (x := (j : Int)) (by omega)
          have hcc := confAt_cut HO.out H0.out (x := (j : Int)) (by omega)
          have HTc := Lib.hid htc
          have HCc := Lib.hid hcc
          clear htc hcc
          go_wp2_with fail
          refine (live_term HTj.out.swap.one j).mono ?_
          rintro e wF ⟨rfl, hb⟩
          have HTF := Lib.hid (HTj.out.down hb)
          clear hb HTj
          go_wp2_with fail
          refine (live_term HTF.out.one j).mono ?_
          rw [HTc.out]
          rintro e wG ⟨rfl, hb⟩
          have HTG := Lib.hid (HTF.out.down hb)
          clear hb HTF
          go_wp2_with fail
          refine (live_confAt HTG.out.swap.one j).mono ?_
          rintro e wH ⟨vh, rfl, hGh, hb⟩
          have HTH := Lib.hid (HTG.out.down hb)
          have HGh := Lib.hid hGh
          obtain ⟨Ah, ch, rfl, _⟩ := G_slice hGh
          clear hb hGh HTG
          go_wp2_with fail
          refine (live_confAt HTH.out.one j).mono ?_
          rw [HCc.out]
          rintro e wI ⟨vi, rfl, hGi, hb⟩
          have HTI := Lib.hid (HTH.out.down hb)
          have HGh2 := Lib.hid (G_below HGh.out hb)
          have HGi := Lib.hid hGi
          obtain ⟨Ai, ci, rfl, _⟩ := G_slice hGi
          clear hb hGi HTH HGh
          go_wp2_with fail
          refine (sameConf_calls _ HGh2.out HGi.out (confAt_len HO.out j)).mono ?_
          rintro e wK ⟨rfl, hb⟩
          have HTK := Lib.hid (HTI.out.down hb)
          clear hb HTI HGh2 HGi
          go_wp2_with fail
          refine (live_fits2 HTK.out.one M _).mono ?_
          rintro e wN ⟨rfl, hb⟩
          have HTN := Lib.hid (HTK.out.down hb)
          clear hb HTK
          have hmx := HMX.out
          by_cases hjm : j = M
          · subst hjm
            have hst : (st.termAt (j : Int)).2 = 0 := H0.out
            have hfb : (st.cut (j : Int)).fits (j : Int) (st.termAt (j : Int)).1 = true := by
              simp [LS.fits, HTc.out, hst]
            rw [hfb]
            go_wp2
            exact ⟨⟨j + 1, by omega, by omega, by simp, HTN.out.wider HTN.out.ge (fun _ h => h)⟩, by simp only [intOf]; omega⟩
          · have hne : ((j : Int) == (M : Int)) = false := by simp; omega
            generalize (st.cut (M : Int)).fits (M : Int) (st.termAt (j : Int)).1 = fb
            cases fb
            · go_wp2
              exact ⟨⟨j + 1, by omega, by omega, by simp, HTN.out.wider HTN.out.ge (fun _ h => h)⟩, by simp only [intOf]; omega⟩
            · go_wp2
              exact ⟨⟨j + 1, by omega, by omega, by simp, HTN.out.wider HTN.out.ge (fun _ h => h)⟩, by simp only [intOf]; omega⟩
        · obtain rfl : j = L + 2 := by omega
          have p4 : ¬ ((L + 2 : Nat) : Int) ≤ (L : Int) + 1 := by omega
          have q4 : IntKind.u64.wrap ((M : Int) + 1) = (M : Int) + 1 := IntWalk.u64_in _ (by omega)
          have hsc := slice_cut HIx.out M (by rw [HL.out]; omega)
          obtain ⟨dl, hdl0⟩ : ∃ dl, st.l.drop M = dl := ⟨_, rfl⟩
          rw [hdl0] at hsc
          have HSc := Lib.hid hsc
          have hdl : dl.length ≤ 4096 := by rw [← hdl0, List.length_drop, HL.out]; omega
          have HDm := Lib.hid (show ∀ e, e ∈ dl → e.f4.length ≤ 4096 from fun e he => by have := mayE_conf (HO.out.may e (List.mem_of_mem_drop (hdl0 ▸ he))); omega)
          clear hsc hdl0
          go_wp2_with fail
          refine (live_slice2 HTj.out.swap.one ((M : Int) + 1) 4096 (by omega)).mono ?_
          rw [HSc.out.1]
          rintro e wF ⟨vf, rfl, hGf, hb⟩
          dsimp only at hGf
          have HTF := Lib.hid (HTj.out.down hb)
          have HGf := Lib.hid hGf
          obtain ⟨Af, cf, rfl, _⟩ := G_slice hGf
          clear hb hGf HTj
          go_wp2_with fail
          refine (live_slice2 HTF.out.one ((M : Int) + 1) 4096 (by omega)).mono ?_
          rw [HSc.out.2]
          rintro e wG ⟨vg, rfl, hGg, hb⟩
          dsimp only at hGg
          have HTG := Lib.hid (HTF.out.down hb)
          have HGf2 := Lib.hid (G_below HGf.out hb)
          have HGg := Lib.hid hGg
          obtain ⟨Ag, cg, rfl, _⟩ := G_slice hGg
          clear hb hGg HTF HGf
          go_wp2_with fail
          refine (same_calls _ HGf2.out HGg.out hdl HDm.out).mono ?_
          rintro e wH ⟨rfl, hb⟩
          have HTH := Lib.hid (HTG.out.down hb)
          clear hb HTG HGf2 HGg
          go_wp2_with fail
          refine (works_any _).mono ?_
          rintro e wI ⟨rfl, hb⟩
          have HTI := Lib.hid (HTH.out.down hb)
          clear hb HTH
          go_wp2_with fail
          go_ret
          exact ⟨rfl, HTI.out.below⟩
end Go.Proofs.Ytpnmodkddiljeaa
