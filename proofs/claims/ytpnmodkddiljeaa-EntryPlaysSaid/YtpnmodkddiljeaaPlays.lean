/- EntryPlays: the walk. Conditions: the arguments lie in their types and within the reach. -/
import Derived.Test.YtpnmodkddiljeaaDuo2
namespace Go.Proofs.Ytpnmodkddiljeaa
open Go.RowKit Go.Proofs.YtpnmodkddiljeaaW.PrintWords Go.Proofs.YtpnmodkddiljeaaW.PrintLast PEntryPlays Go.Shelf

theorem pheavy_calls (l : List S45) {w : World} {A : Option Addr} {c : Nat} (h : Kd.C k45 w A l.length l) (hc : l.length ≤ c) : Calls Try.prog 15 #[.slice A l.length c] w fun e w' => e = .returned (.bool (heavyS l)) ∧ Below w.heap.size w w' := by
  obtain ⟨k, hk⟩ := (heavy_ev l).rounds
  exact (codicillaw26_heavy.calls k A c l _ w h hc hk).mono fun _ _ h => ⟨h.1, h.2.below⟩

set_option maxHeartbeats 4000000 in
set_option maxRecDepth 100000 in
theorem plays_main (index term : Int) (conf : List Int) (script : List S45) {w : World} {A2 A0 : Option Addr} {c2 c0 : Nat} (hC : Kd.C (Kd.int .i64) w A2 conf.length conf) (hc2 : conf.length ≤ c2) (hS : Kd.C k45 w A0 script.length script) (hc0 : script.length ≤ c0)
    (hpos : ∀ s, s ∈ script → 0 ≤ s.f1 ∧ s.f1 ≤ 18446744073709551615) (hlight : script.length ≤ 60 ∧ ∀ s, s ∈ script → s.f3.length ≤ 4096 ∧ ∀ e, e ∈ s.f3 → e.f4.length ≤ 4096) (hh : heavyS script = false) (hl : conf.length ≤ 100) (hi : 0 ≤ index) :
    Calls Try.prog 5 #[.int .u64 index, .int .u64 term, .slice A2 conf.length c2, .slice A0 script.length c0] w fun e w' => e = .returned (.bool true) ∧ Below w.heap.size w w' := by
  have HS := Lib.hid hS
  have HPos := Lib.hid hpos
  have HLt := Lib.hid hlight.2
  have hs60 := hlight.1
  have HCf := Lib.hid (Kd.C_F (Kd.heap_int .i64) hC)
  have hl' : (conf.length : Int) ≤ 100 := by omega
  clear hS hpos hlight hC
  go_enter Try.func5, Try.ntmps5
  go_wp2_with fail
  refine (pheavy_calls script HS.out hc0).mono ?_
  rw [hh]
  rintro e w1 ⟨rfl, hb⟩
  have HB1 := Lib.hid hb
  have hw1 := hb.size
  have HCf1 := Lib.hid (Kd.F_below HCf.out hb)
  clear hb
  go_wp2_with (at_builtin; refine G_append_rows (Kd.int .i64) rfl (.const (.slice none 0 0)) (.tmp 37) 28 3 (.int .i64 0) 8 rfl Try.underlying28 int_info rfl (by decide) (.slice none 0 0) [] conf A2 conf.length c2 (fun _ => True) (fun k => k < w.heap.size) rfl rfl (G_nil _ _ _ _) HCf1.out (fun k hk => ⟨trivial, by simp [Value.ownBlock]⟩) (fun _ _ => trivial) (by simp; omega) ?_; intro v2 w2 hG2 hg2 _ _)
  rw [List.nil_append] at hG2
  have hb2 : Below w1.heap.size w1 w2 := (Fr.of_grown hg2).below (fun k hk => by simp [Value.ownBlock] at hk)
  have HB2 := Lib.hid (below_then HB1.out HB1.out.size hb2)
  have HR2 := Lib.hid (RV_of_G hG2)
  have hw2 := hb2.size
  clear hG2 hg2 hb2 HCf1
  cases hn : newOk index term conf with
  | false =>
    refine (new_bad index term conf HR2.out hn).mono ?_
    rintro e w3 ⟨rfl, hb⟩
    have HB3 := Lib.hid (below_then HB2.out HB2.out.size hb)
    clear hb
    go_wp2_with fail
    refine (rnew_bad index term conf (ok := fun k => k < w.heap.size) ⟨A2, c2, rfl, hc2, Kd.F_below HCf.out HB3.out⟩ hn).mono ?_
    rintro e w4 ⟨rfl, hb⟩
    have HB4 := Lib.hid (below_then HB3.out HB3.out.size hb)
    clear hb
    go_wp2_with fail
    refine (works_any _).mono ?_
    rintro e w5 ⟨rfl, hb⟩
    have HB5 := Lib.hid (below_then HB4.out HB4.out.size hb)
    clear hb
    go_wp2_with fail
    go_ret
    exact ⟨rfl, HB5.out⟩
  | true =>
    refine (new_ok index term conf HR2.out hn).mono ?_
    rintro e w3 ⟨g, rfl, hg, hI, hb⟩
    have HB3 := Lib.hid (below_then HB2.out HB2.out.size hb)
    have HI := Lib.hid hI
    have hw3 := hb.size
    clear hb hI
    go_wp2_with fail
    refine (rnew_ok index term conf (ok := fun k => k < w.heap.size) ⟨A2, c2, rfl, hc2, Kd.F_below HCf.out HB3.out⟩ hn).mono ?_
    rintro e w4 ⟨g2, rfl, hg2, hI2, hb⟩
    have HT := Lib.hid (show Duet g g2 w w4 ⟨index, term, conf, []⟩ ⟨index, term, conf, []⟩ (fun k => w.heap.size ≤ k) (fun k => w.heap.size ≤ k) from by
      have hn2 := hn
      simp only [newOk, Bool.and_eq_true, decide_eq_true_eq] at hn2
      have hok : LSok ⟨index, term, conf, []⟩ := ⟨hi, hn2.1, hn2.2.2.2, by simp, fun j hj => by simp at hj, fun e he => by simp at he⟩
      have hgl := HI.out.lt
      exact ⟨hok, hok, fun k hk => hk, fun k hk => hk, by omega, by omega, by omega, below_then HB3.out HB3.out.size hb, _, _, _, _, (HI.out.bound).below hb, hI2, fun k hk => by have := hk.1; omega, fun k hk => by simp [Value.ownBlock] at hk, fun k hk h => by have := hk.1; have := h.2; omega, fun h => by have := h.2; omega, fun h => by have := h.2; omega⟩)
    clear hb hI2 HI HB3 HB2 HR2 HCf HB1 hw1 hw2 hw3 hn hg hg2
    go_wp2_with fail
    go_loopw [12] (fun i wr => ∃ k : Nat, k ≤ script.length ∧ i = .int .i64 k ∧ ∃ st, Duet g g2 w wr st st (fun k => w.heap.size ≤ k) (fun k => w.heap.size ≤ k)) (fun i _ => script.length + 1 - (intOf i).toNat)
    case atStart => exact ⟨0, Nat.zero_le _, rfl, _, HT.out⟩
    case round =>
      obtain ⟨k, hk, rfl, st, hTk⟩ := hrel
      have HTk := Lib.hid hTk
      clear hTk HT
      go_wp2_with fail
      refine (duet_alike HTk.out).mono ?_
      rintro e wq ⟨rfl, hb⟩
      have HTq := Lib.hid (HTk.out.down hb)
      clear hb HTk
      by_cases hlt : k < script.length
      · have q1 : IntKind.i64.wrap ((k : Int) + 1) = (k + 1 : Nat) := IntWalk.i64_in _ (by omega)
        have hkk : ((k : Int) == (script.length : Int)) = false := by simp; omega
        have hkl : (k : Int) ≤ (script.length : Int) := by omega
        obtain ⟨ad, B3, d3, rfl, e0, e1, e2, e3, e4, hl3, hC3⟩ := at_T45 HS.out (k : Int) (by omega) (by omega)
        replace e0 := (HTq.out.below.cell (World.block_lt_of_cell? w _ e0)).trans e0
        replace e1 := (HTq.out.below.cell (World.block_lt_of_cell? w _ e1)).trans e1
        replace e2 := (HTq.out.below.cell (World.block_lt_of_cell? w _ e2)).trans e2
        replace e3 := (HTq.out.below.cell (World.block_lt_of_cell? w _ e3)).trans e3
        replace e4 := (HTq.out.below.cell (World.block_lt_of_cell? w _ e4)).trans e4
        rw [rdS_nat script k hlt] at e0 e1 e2 e3 e4 hl3 hC3
        simp only [Int.toNat_natCast] at e0 e1 e2 e3 e4
        have hlt3 := HLt.out script[k] (List.getElem_mem _)
        have hp1 := HPos.out script[k] (List.getElem_mem _)
        generalize script[k] = s at *
        have HC3 := Lib.hid hC3
        have HF3 := Lib.hid (Kd.C_F heap31 hC3)
        have HL3 := Lib.hid hlt3
        clear hC3 hlt3
        by_cases hs0 : s.f0 = 0
        · have hs0' : (s.f0 == 0) = true := by simpa using hs0
          by_cases hl0 : s.f3.length = 0
          · go_wp2_with fail
            exact ⟨⟨k + 1, by omega, by simp, st, HTq.out.down (below_alloc (Below.refl _ _) _)⟩, by simp [intOf]; omega⟩
          · have p0 : 0 < s.f3.length := by omega
            have p1 : 1 ≤ s.f3.length := by omega
            obtain ⟨x, hx⟩ : ∃ x, s.f3.take 1 = [x] ∧ x ∈ s.f3 ∧ ∀ h0 : 0 < s.f3.length, s.f3[0] = x := by
              cases h : s.f3 with
              | nil => rw [h] at p0; simp at p0
              | cons x r => exact ⟨x, rfl, by simp, fun _ => rfl⟩
            have HX := Lib.hid hx
            have hC1 := Kd.C_take HC3.out (m := 1) (by omega)
            rw [hx.1] at hC1
            have HC1 := Lib.hid hC1
            clear hC1 hx
            have p2 : (1 : Int) ≤ (d3 : Int) := by omega
            have hgk : g < wq.heap.size ∧ g2 < wq.heap.size := ⟨HTq.out.now.fg.2, HTq.out.now.fg2.2⟩
            have hwr : w.heap.size ≤ wq.heap.size := HTq.out.below.size
            have HWa := Lib.hid (fun o => below_alloc (Below.refl wq.heap.size wq) o)
            have HBx := Lib.hid (fun o => blk_new wq o)
            have hsa : ∀ o, (wq.alloc o).heap.size = wq.heap.size + 1 := fun o => World.size_alloc _ _
            go_wp2_with fail
            have HBox := Lib.hid (HBx.out (.cells #[.int .i64 0, .int .u64 s.f1, .int .u64 s.f2, .slice B3 s.f3.length d3, .int .i64 s.f4] 45))
            have HTa := Lib.hid (HTq.out.now.down (HWa.out (.cells #[.int .i64 0, .int .u64 s.f1, .int .u64 s.f2, .slice B3 s.f3.length d3, .int .i64 s.f4] 45)))
            have hsz := hsa (.cells #[.int .i64 0, .int .u64 s.f1, .int .u64 s.f2, .slice B3 s.f3.length d3, .int .i64 s.f4] 45)
            clear hsa HWa HBx HTq e0 e1 e2 e3 e4
            generalize (wq.alloc (.cells #[.int .i64 0, .int .u64 s.f1, .int .u64 s.f2, .slice B3 s.f3.length d3, .int .i64 s.f4] 45)) = wa at *
            have b3 := blk_cell HBox.out 3
            simp only [List.getElem?_toArray, List.getElem?_cons_succ, List.getElem?_cons_zero] at b3
            go_wp2_with fail
            refine (copied_any [x] (Kd.C_below HC1.out HTa.out.below) (by simp) (fun e he => by rw [List.mem_singleton.1 he]; exact (HL3.out.2 x HX.out.2.1))).mono ?_
            rintro e w5 ⟨v5, rfl, hG5, hb5⟩
            have HT5 := Lib.hid (HTa.out.down hb5)
            have HBox5 := Lib.hid (blk_below HBox.out hb5)
            have hs5 : wa.heap.size ≤ w5.heap.size := hb5.size
            obtain ⟨Av5, cv5, rfl, _⟩ := G_slice hG5
            obtain ⟨bb5, off5, A5, c5, h5, ho5, g0, g1, g2', g3, g4, hl5, hF5⟩ := G_ent hG5 0 (by simp)
            subst h5
            simp only [List.getElem_cons_zero, Nat.zero_mul, Nat.add_zero] at g0 g1 g2' g3 g4 hl5 hF5
            obtain ⟨ad3, A6, c6, rfl, j0, j1, j2, j3, j4, hR6⟩ := at_F31 (Kd.F_below HF3.out HT5.out.below) 0 p0 p0
            have hR6' : ad3.block < w.heap.size := by
              obtain ⟨_, _, he, _, _, _, hin⟩ := Kd.F_get HF3.out z31 0 (Int.le_refl _) (by omega)
              injection he with he
              subst he
              exact hin (by decide)
            simp only [HX.out.2.2 p0, Nat.zero_mul] at j0 j1 j2 j3 j4 hR6
            have HR5 := Lib.hid (show RV (Kd.int .i64) w5 _ (.slice A5 x.f4.length c5) x.f4 from ⟨A5, c5, rfl, hl5, hF5⟩)
            have HR6 := Lib.hid hR6
            have had0 : ad3.add 0 = ad3 := rfl
            rw [had0] at j0 j1 j2 j3 j4
            clear hb5 b3 HTa HBox hl5 hF5 hR6 had0 hG5
            go_wp2_with fail
            have b3 := blk_cell HBox5.out 3
            simp only [List.getElem?_toArray, List.getElem?_cons_succ, List.getElem?_cons_zero] at b3
            have HSS : ∀ w', Fr w5 w' (fun k => w.heap.size ≤ k ∧ k < wq.heap.size) → (fun w' => w'.cell? ⟨bb5, off5, none⟩ = some (.int .u64 x.f0) ∧ w'.cell? ⟨bb5, off5 + 1, none⟩ = some (.int .u64 x.f1) ∧ w'.cell? ⟨bb5, off5 + 2, none⟩ = some (.int .u8 x.f2) ∧ w'.cell? ⟨bb5, off5 + 3, none⟩ = some (.string x.f3) ∧ w'.cell? ⟨bb5, off5 + 4, none⟩ = some (.slice A5 x.f4.length c5) ∧ w'.cell? ⟨wq.heap.size, 3, none⟩ = some (.slice (some ad3) s.f3.length d3) ∧ w'.cell? ad3 = some (.int .u64 x.f0) ∧ w'.cell? ⟨ad3.block, ad3.off + 1, none⟩ = some (.int .u64 x.f1) ∧ w'.cell? ⟨ad3.block, ad3.off + 2, none⟩ = some (.int .u8 x.f2) ∧ w'.cell? ⟨ad3.block, ad3.off + 3, none⟩ = some (.string x.f3) ∧ w'.cell? ⟨ad3.block, ad3.off + 4, none⟩ = some (.slice A6 x.f4.length c6)) w' := fun w' hf =>
              have n5 : ¬ (w.heap.size ≤ bb5 ∧ bb5 < wq.heap.size) := by omega
              have n3 : ¬ (w.heap.size ≤ wq.heap.size ∧ wq.heap.size < wq.heap.size) := by omega
              have n6 : ¬ (w.heap.size ≤ ad3.block ∧ ad3.block < wq.heap.size) := by omega
              ⟨hf.cell n5 g0, hf.cell n5 g1, hf.cell n5 g2', hf.cell n5 g3, hf.cell n5 g4, hf.cell n3 b3, hf.cell (p := ad3) n6 j0, hf.cell (p := ⟨ad3.block, ad3.off + 1, none⟩) n6 j1, hf.cell (p := ⟨ad3.block, ad3.off + 2, none⟩) n6 j2, hf.cell (p := ⟨ad3.block, ad3.off + 3, none⟩) n6 j3, hf.cell (p := ⟨ad3.block, ad3.off + 4, none⟩) n6 j4⟩
            clear g0 g1 g2' g3 g4 j0 j1 j2 j3 j4 b3
            refine start_ (n := 13) (S := (fun w' => w'.cell? ⟨bb5, off5, none⟩ = some (.int .u64 x.f0) ∧ w'.cell? ⟨bb5, off5 + 1, none⟩ = some (.int .u64 x.f1) ∧ w'.cell? ⟨bb5, off5 + 2, none⟩ = some (.int .u8 x.f2) ∧ w'.cell? ⟨bb5, off5 + 3, none⟩ = some (.string x.f3) ∧ w'.cell? ⟨bb5, off5 + 4, none⟩ = some (.slice A5 x.f4.length c5) ∧ w'.cell? ⟨wq.heap.size, 3, none⟩ = some (.slice (some ad3) s.f3.length d3) ∧ w'.cell? ad3 = some (.int .u64 x.f0) ∧ w'.cell? ⟨ad3.block, ad3.off + 1, none⟩ = some (.int .u64 x.f1) ∧ w'.cell? ⟨ad3.block, ad3.off + 2, none⟩ = some (.int .u8 x.f2) ∧ w'.cell? ⟨ad3.block, ad3.off + 3, none⟩ = some (.string x.f3) ∧ w'.cell? ⟨ad3.block, ad3.off + 4, none⟩ = some (.slice A6 x.f4.length c6))) (ds := [10]) #[false, false, false, false, false, false, false, false, false, false, false, false, false] (by kernel_rfl) rfl rfl (by exact HSS _ (Fr.refl w5 _).drew) (fun hHeld => ?_)
            refine pure_ (i := 0) (N := some 93) (v := ?_) (a' := ?_) #[true, false, false, false, false, false, false, false, false, false, false, false, false] rfl rfl (by kernel_rfl) (fun _ _ _ h => h) (Or.inl ⟨by rfl, ?_⟩) ?_ ?_   -- move
            rotate_left
            · intro w'
              go_simp
              with_reducible rfl
            rotate_left
            · simp only [Act.put, List.setIfInBounds_toArray, List.set_cons_zero, List.set_cons_succ]
              rfl
            refine pure_ (i := 1) (N := some 94) (v := ?_) (a' := ?_) #[true, true, false, false, false, false, false, false, false, false, false, false, false] rfl rfl (by kernel_rfl) (fun _ _ _ h => h) (Or.inl ⟨by rfl, ?_⟩) ?_ ?_   -- move
            rotate_left
            · intro w'
              go_simp
              with_reducible rfl
            rotate_left
            · simp only [Act.put, List.setIfInBounds_toArray, List.set_cons_zero, List.set_cons_succ]
              rfl
            refine pure_ (i := 2) (N := some 95) (v := ?_) (a' := ?_) #[true, true, true, false, false, false, false, false, false, false, false, false, false] rfl rfl (by kernel_rfl) (fun _ _ _ h => h) (Or.inl ⟨by rfl, ?_⟩) ?_ ?_   -- indexAddr
            rotate_left
            · intro w'
              go_simp
              with_reducible rfl
            rotate_left
            · simp only [Act.put, List.setIfInBounds_toArray, List.set_cons_zero, List.set_cons_succ]
              rfl
            refine pure_ (i := 5) (N := some 98) (v := ?_) (a' := ?_) #[true, true, true, false, false, true, false, false, false, false, false, false, false] rfl rfl (by kernel_rfl) (fun _ _ _ h => h) (Or.inl ⟨by rfl, ?_⟩) ?_ ?_   -- move
            rotate_left
            · intro w'
              go_simp
              with_reducible rfl
            rotate_left
            · simp only [Act.put, List.setIfInBounds_toArray, List.set_cons_zero, List.set_cons_succ]
              rfl
            refine pure_ (i := 6) (N := some 99) (v := ?_) (a' := ?_) #[true, true, true, false, false, true, true, false, false, false, false, false, false] rfl rfl (by kernel_rfl) (fun _ _ _ h => h) (Or.inl ⟨by rfl, ?_⟩) ?_ ?_   -- fieldAddr
            rotate_left
            · intro w'
              go_simp
              with_reducible rfl
            rotate_left
            · simp only [Act.put, List.setIfInBounds_toArray, List.set_cons_zero, List.set_cons_succ]
              rfl
            refine take_ (i := 3) (N := some 96) (v := ?_) (a' := ?_) #[true, true, true, true, false, true, true, false, false, false, false, false, false] rfl rfl (by kernel_rfl) (fun _ _ _ h => h) (Or.inl ⟨by rfl, ?_⟩) hHeld ?_ ?_   -- Go.Op.load 31 (Go.Operand.tmp 95)
            rotate_left
            · rintro w' ⟨s0, s1, s2, s3, s4, s5, s6, s7, s8, s9, s10⟩
              go_simp
              with_reducible rfl
            rotate_left
            · simp only [Act.put, List.setIfInBounds_toArray, List.set_cons_zero, List.set_cons_succ]
              rfl
            refine take_ (i := 7) (N := some 100) (v := ?_) (a' := ?_) #[true, true, true, true, false, true, true, true, false, false, false, false, false] rfl rfl (by kernel_rfl) (fun _ _ _ h => h) (Or.inl ⟨by rfl, ?_⟩) hHeld ?_ ?_   -- Go.Op.load 33 (Go.Operand.tmp 99)
            rotate_left
            · rintro w' ⟨s0, s1, s2, s3, s4, s5, s6, s7, s8, s9, s10⟩
              go_simp
              with_reducible rfl
            rotate_left
            · simp only [Act.put, List.setIfInBounds_toArray, List.set_cons_zero, List.set_cons_succ]
              rfl
            refine pure_ (i := 8) (N := some 101) (v := ?_) (a' := ?_) #[true, true, true, true, false, true, true, true, true, false, false, false, false] rfl rfl (by kernel_rfl) (fun _ _ _ h => h) (Or.inl ⟨by rfl, ?_⟩) ?_ ?_   -- indexAddr
            rotate_left
            · intro w'
              go_simp
              with_reducible rfl
            rotate_left
            · simp only [Act.put, List.setIfInBounds_toArray, List.set_cons_zero, List.set_cons_succ]
              rfl
            refine take_ (i := 9) (N := some 102) (v := ?_) (a' := ?_) #[true, true, true, true, false, true, true, true, true, true, false, false, false] rfl rfl (by kernel_rfl) (fun _ _ _ h => h) (Or.inl ⟨by rfl, ?_⟩) hHeld ?_ ?_   -- Go.Op.load 31 (Go.Operand.tmp 101)
            rotate_left
            · rintro w' ⟨s0, s1, s2, s3, s4, s5, s6, s7, s8, s9, s10⟩
              go_simp
              with_reducible rfl
            rotate_left
            · simp only [Act.put, List.setIfInBounds_toArray, List.set_cons_zero, List.set_cons_succ]
              rfl
            refine one_ (i := 4) (N := some 97) #[true, true, true, true, true, true, true, true, true, true, false, false, false] rfl rfl (by kernel_rfl) (by decide) (fun K hK => ?_)   -- Go.Op.call { callee := Go.Callee.value (Go.Operand.func 9), args := #[Go.Operand.tmp 93, Go.Operand.tmp 96], a
            refine goes_ Try.func9 (by kernel_rfl) rfl #[.pointer (some ⟨g, 0, none⟩), entV x (.slice A5 x.f4.length c5)] (by rfl) rfl rfl (by simp only [List.map_toArray, List.map_cons, List.map_nil]; rfl) ?_
            refine (duet_append (HT5.out.down (below_drew (Below.refl _ _))) x _ (RV_below HR5.out (below_drew (Below.refl _ _)))).mono ?_
            rintro e w7 ⟨rfl, h7, hF7⟩
            have HT7 := Lib.hid h7
            have HF7 := Lib.hid ((Fr.of_below (below_drew (Below.refl w5.heap.size w5)) (fun k => w.heap.size ≤ k ∧ k < wq.heap.size)).trans hF7 (fun k hk => .inl hk))
            clear h7 hF7
            refine ⟨_, rfl, ?_⟩
            refine hK.out _ _ (HSS _ HF7.out) (fun hHeld => ?_)
            clear hK K
            refine norm_ (a' := ?_) ?_ ?_
            rotate_left
            · show Act.put _ (some 97) _ = _
              simp only [Act.put, List.setIfInBounds_toArray, List.set_cons_zero, List.set_cons_succ]
              rfl
            refine last_ (i := 10) (N := some 103) #[true, true, true, true, true, true, true, true, true, true, true, false, false] rfl rfl (by kernel_rfl) (by decide) (fun K hK => ?_)   -- Go.Op.call { callee := Go.Callee.value (Go.Operand.func 24), args := #[Go.Operand.tmp 98, Go.Operand.tmp 102],
            refine goes_ Try.func24 (by kernel_rfl) rfl #[.pointer (some ⟨g2, 0, none⟩), entV x (.slice A6 x.f4.length c6)] (by rfl) rfl rfl (by simp only [List.map_toArray, List.map_cons, List.map_nil]; rfl) ?_
            refine (rduet_append HT7.out x _ (RV_fr HR6.out HF7.out (fun k hk h => by omega)) (fun k h => h)).mono ?_
            rintro e w8 ⟨rfl, h8, _⟩
            have HT8 := Lib.hid h8
            clear h8
            refine ⟨_, rfl, ?_⟩
            refine hK.out _ _ ?_
            clear hK K
            refine norm_ (a' := ?_) ?_ ?_
            rotate_left
            · show Act.put _ (some 103) _ = _
              simp only [Act.put, List.setIfInBounds_toArray, List.set_cons_zero, List.set_cons_succ]
              rfl
            refine pure_ (i := 11) (N := some 104) (v := ?_) (a' := ?_) #[true, true, true, true, true, true, true, true, true, true, true, true, false] rfl rfl (by kernel_rfl) (fun _ _ _ h => h) (Or.inl ⟨by rfl, ?_⟩) ?_ ?_   -- binOp
            rotate_left
            · intro w'
              go_simp
              with_reducible rfl
            rotate_left
            · simp only [Act.put, List.setIfInBounds_toArray, List.set_cons_zero, List.set_cons_succ]
              rfl
            refine pure_ (i := 12) (N := some 14) (v := ?_) (a' := ?_) #[true, true, true, true, true, true, true, true, true, true, true, true, true] rfl rfl (by kernel_rfl) (fun _ _ _ h => h) (Or.inl ⟨by rfl, ?_⟩) ?_ ?_   -- assign
            rotate_left
            · intro w'
              go_simp
              with_reducible rfl
            rotate_left
            · simp only [Act.put, List.setIfInBounds_toArray, List.set_cons_zero, List.set_cons_succ]
              rfl
            refine done_ (by kernel_rfl) ?_
            clear HSS hHeld
            go_wp2_with fail
            exact ⟨⟨k + 1, by omega, by simp, _, HT8.out.wider HT8.out.ge (fun k h => h) HT8.out.ge2 (fun k h => h)⟩, by simp [intOf]; omega⟩
        have hs0' : (s.f0 == 0) = false := by simpa using hs0
        by_cases hs1 : s.f0 = 1
        · have hs1' : (s.f0 == 1) = true := by simpa using hs1
          have hgk : g < wq.heap.size ∧ g2 < wq.heap.size := ⟨HTq.out.now.fg.2, HTq.out.now.fg2.2⟩
          have hwr : w.heap.size ≤ wq.heap.size := HTq.out.below.size
          have HWa := Lib.hid (fun o => below_alloc (Below.refl wq.heap.size wq) o)
          have HBx := Lib.hid (fun o => blk_new wq o)
          have hsa : ∀ o, (wq.alloc o).heap.size = wq.heap.size + 1 := fun o => World.size_alloc _ _
          go_wp2_with fail
          have HBox := Lib.hid (HBx.out (.cells #[.int .i64 1, .int .u64 s.f1, .int .u64 s.f2, .slice B3 s.f3.length d3, .int .i64 s.f4] 45))
          have HTa := Lib.hid (HTq.out.now.down (HWa.out (.cells #[.int .i64 1, .int .u64 s.f1, .int .u64 s.f2, .slice B3 s.f3.length d3, .int .i64 s.f4] 45)))
          have hsz := hsa (.cells #[.int .i64 1, .int .u64 s.f1, .int .u64 s.f2, .slice B3 s.f3.length d3, .int .i64 s.f4] 45)
          clear hsa HWa HBx HTq e0 e1 e2 e3 e4
          generalize (wq.alloc (.cells #[.int .i64 1, .int .u64 s.f1, .int .u64 s.f2, .slice B3 s.f3.length d3, .int .i64 s.f4] 45)) = wa at *
          have HSS : ∀ w', Fr wa w' (fun k => (w.heap.size ≤ k) ∧ k < wq.heap.size) → (fun w' => w'.cell? ⟨wq.heap.size, 1, none⟩ = some (.int .u64 s.f1) ∧ w'.cell? ⟨wq.heap.size, 2, none⟩ = some (.int .u64 s.f2) ∧ w'.cell? ⟨wq.heap.size, 3, none⟩ = some (.slice B3 s.f3.length d3)) w' := fun w' hf => by
            have h := hf.blk (by rintro ⟨h1, h2⟩; omega) HBox.out
            exact ⟨blk_cell h 1, blk_cell h 2, blk_cell h 3⟩
          obtain ⟨sr, hsr⟩ : ∃ sr, st.store s.f1 s.f2 s.f3 = sr := ⟨_, rfl⟩
          have hpi := put_in st s.f1 s.f2 s.f3
          rw [hsr] at hpi
          have HM := Lib.hid (show ∀ e, e ∈ sr.put → e.f4.length ≤ 4096 from fun e he => HL3.out.2 e (hpi.2 e he))
          have hsn : sr.put.length ≤ 4096 := by have := HL3.out.1; omega
          have HSr := Lib.hid hsr
          obtain ⟨sst, sat, sput, se⟩ := sr
          dsimp only at hsn
          clear hsr hpi
          refine start_ (n := 16) (S := (fun w' => w'.cell? ⟨wq.heap.size, 1, none⟩ = some (.int .u64 s.f1) ∧ w'.cell? ⟨wq.heap.size, 2, none⟩ = some (.int .u64 s.f2) ∧ w'.cell? ⟨wq.heap.size, 3, none⟩ = some (.slice B3 s.f3.length d3))) (ds := [8]) #[false, false, false, false, false, false, false, false, false, false, false, false, false, false, false, false] (by kernel_rfl) rfl rfl (by exact HSS _ (Fr.refl wa _).drew) (fun hHeld => ?_)
          refine pure_ (i := 0) (N := some 108) (v := ?_) (a' := ?_) #[true, false, false, false, false, false, false, false, false, false, false, false, false, false, false, false] rfl rfl (by kernel_rfl) (fun _ _ _ h => h) (Or.inl ⟨by rfl, ?_⟩) ?_ ?_   -- move
          rotate_left
          · intro w'
            go_simp
            with_reducible rfl
          rotate_left
          · simp only [Act.put, List.setIfInBounds_toArray, List.set_cons_zero, List.set_cons_succ]
            rfl
          refine pure_ (i := 1) (N := some 109) (v := ?_) (a' := ?_) #[true, true, false, false, false, false, false, false, false, false, false, false, false, false, false, false] rfl rfl (by kernel_rfl) (fun _ _ _ h => h) (Or.inl ⟨by rfl, ?_⟩) ?_ ?_   -- fieldAddr
          rotate_left
          · intro w'
            go_simp
            with_reducible rfl
          rotate_left
          · simp only [Act.put, List.setIfInBounds_toArray, List.set_cons_zero, List.set_cons_succ]
            rfl
          refine pure_ (i := 3) (N := some 111) (v := ?_) (a' := ?_) #[true, true, false, true, false, false, false, false, false, false, false, false, false, false, false, false] rfl rfl (by kernel_rfl) (fun _ _ _ h => h) (Or.inl ⟨by rfl, ?_⟩) ?_ ?_   -- fieldAddr
          rotate_left
          · intro w'
            go_simp
            with_reducible rfl
          rotate_left
          · simp only [Act.put, List.setIfInBounds_toArray, List.set_cons_zero, List.set_cons_succ]
            rfl
          refine pure_ (i := 5) (N := some 113) (v := ?_) (a' := ?_) #[true, true, false, true, false, true, false, false, false, false, false, false, false, false, false, false] rfl rfl (by kernel_rfl) (fun _ _ _ h => h) (Or.inl ⟨by rfl, ?_⟩) ?_ ?_   -- fieldAddr
          rotate_left
          · intro w'
            go_simp
            with_reducible rfl
          rotate_left
          · simp only [Act.put, List.setIfInBounds_toArray, List.set_cons_zero, List.set_cons_succ]
            rfl
          refine take_ (i := 2) (N := some 110) (v := ?_) (a' := ?_) #[true, true, true, true, false, true, false, false, false, false, false, false, false, false, false, false] rfl rfl (by kernel_rfl) (fun _ _ _ h => h) (Or.inl ⟨by rfl, ?_⟩) hHeld ?_ ?_   -- Go.Op.load 27 (Go.Operand.tmp 109)
          rotate_left
          · rintro w' ⟨s0, s1, s2⟩
            go_simp
            with_reducible rfl
          rotate_left
          · simp only [Act.put, List.setIfInBounds_toArray, List.set_cons_zero, List.set_cons_succ]
            rfl
          refine take_ (i := 4) (N := some 112) (v := ?_) (a' := ?_) #[true, true, true, true, true, true, false, false, false, false, false, false, false, false, false, false] rfl rfl (by kernel_rfl) (fun _ _ _ h => h) (Or.inl ⟨by rfl, ?_⟩) hHeld ?_ ?_   -- Go.Op.load 27 (Go.Operand.tmp 111)
          rotate_left
          · rintro w' ⟨s0, s1, s2⟩
            go_simp
            with_reducible rfl
          rotate_left
          · simp only [Act.put, List.setIfInBounds_toArray, List.set_cons_zero, List.set_cons_succ]
            rfl
          refine take_ (i := 6) (N := some 114) (v := ?_) (a' := ?_) #[true, true, true, true, true, true, true, false, false, false, false, false, false, false, false, false] rfl rfl (by kernel_rfl) (fun _ _ _ h => h) (Or.inl ⟨by rfl, ?_⟩) hHeld ?_ ?_   -- Go.Op.load 33 (Go.Operand.tmp 113)
          rotate_left
          · rintro w' ⟨s0, s1, s2⟩
            go_simp
            with_reducible rfl
          rotate_left
          · simp only [Act.put, List.setIfInBounds_toArray, List.set_cons_zero, List.set_cons_succ]
            rfl
          refine one_ (i := 7) (N := some 115) #[true, true, true, true, true, true, true, true, false, false, false, false, false, false, false, false] rfl rfl (by kernel_rfl) (by decide) (fun K hK => ?_)   -- Go.Op.call { callee := Go.Callee.value (Go.Operand.func 17), args := #[Go.Operand.tmp 114], argTypes := #[33] 
          refine goes_ Try.func17 (by kernel_rfl) rfl #[.slice B3 s.f3.length d3] (by rfl) rfl rfl (by simp only [List.map_toArray, List.map_cons, List.map_nil]; rfl) ?_
          refine (copied_any s.f3 (Kd.C_drew (Kd.C_below HC3.out HTa.out.below)) HL3.out.1 HL3.out.2).mono ?_
          rintro e w5 ⟨v5, rfl, hG5, hb5⟩
          have HB5 := Lib.hid (below_then (below_drew (Below.refl wa.heap.size wa)) (Nat.le_refl _) hb5)
          have HG5 := Lib.hid (G_mono hG5 (ok' := fun b => wa.heap.size ≤ b) (fun b hb => hb))
          clear hG5 hb5
          refine ⟨_, rfl, ?_⟩
          refine hK.out _ _ (HSS _ (Fr.of_below HB5.out _)) (fun hHeld => ?_)
          clear hK K
          refine norm_ (a' := ?_) ?_ ?_
          rotate_left
          · show Act.put _ (some 115) _ = _
            simp only [Act.put, List.setIfInBounds_toArray, List.set_cons_zero, List.set_cons_succ]
            rfl
          refine last_ (i := 8) (N := some 116) #[true, true, true, true, true, true, true, true, true, false, false, false, false, false, false, false] rfl rfl (by kernel_rfl) (by decide) (fun K hK => ?_)   -- Go.Op.call { callee := Go.Callee.value (Go.Operand.func 11), args := #[Go.Operand.tmp 108, Go.Operand.tmp 110,
          refine goes_ Try.func11 (by kernel_rfl) rfl #[.pointer (some ⟨g, 0, none⟩), .int .u64 s.f1, .int .u64 s.f2, v5] (by rfl) rfl rfl (by simp only [List.map_toArray, List.map_cons, List.map_nil]; rfl) ?_
          refine (duet_store (HTa.out.down HB5.out) s.f1 s.f2 hp1.1 s.f3 HG5.out (by omega) HL3.out.1 HL3.out.2).mono ?_
          rw [HSr.out]
          rintro e w6 ⟨v6, rfl, hG6, h6, hF6⟩
          dsimp only at hG6
          have HT6 := Lib.hid h6
          have HF6 := Lib.hid ((Fr.of_below HB5.out (fun k => (w.heap.size ≤ k) ∧ k < wq.heap.size)).trans hF6 (fun _ h => .inl h))
          have HG6 := Lib.hid hG6
          clear h6 hF6 hG6
          refine ⟨_, rfl, ?_⟩
          refine hK.out _ _ ?_
          clear hK K
          refine norm_ (a' := ?_) ?_ ?_
          rotate_left
          · show Act.put _ (some 116) _ = _
            simp only [Act.put, List.setIfInBounds_toArray, List.set_cons_zero, List.set_cons_succ]
            rfl
          refine pure_ (i := 9) (N := some 107) (v := ?_) (a' := ?_) #[true, true, true, true, true, true, true, true, true, true, false, false, false, false, false, false] rfl rfl (by kernel_rfl) (fun _ _ _ h => h) (Or.inl ⟨by rfl, ?_⟩) ?_ ?_   -- move
          rotate_left
          · intro w'
            go_simp
            with_reducible rfl
          rotate_left
          · simp only [Act.put, List.setIfInBounds_toArray, List.set_cons_zero, List.set_cons_succ]
            rfl
          refine pure_ (i := 10) (N := some 117) (v := ?_) (a' := ?_) #[true, true, true, true, true, true, true, true, true, true, true, false, false, false, false, false] rfl rfl (by kernel_rfl) (fun _ _ _ h => h) (Or.inl ⟨by rfl, ?_⟩) ?_ ?_   -- extract
          rotate_left
          · intro w'
            go_simp
            with_reducible rfl
          rotate_left
          · simp only [Act.put, List.setIfInBounds_toArray, List.set_cons_zero, List.set_cons_succ]
            rfl
          refine pure_ (i := 11) (N := some 118) (v := ?_) (a' := ?_) #[true, true, true, true, true, true, true, true, true, true, true, true, false, false, false, false] rfl rfl (by kernel_rfl) (fun _ _ _ h => h) (Or.inl ⟨by rfl, ?_⟩) ?_ ?_   -- extract
          rotate_left
          · intro w'
            go_simp
            with_reducible rfl
          rotate_left
          · simp only [Act.put, List.setIfInBounds_toArray, List.set_cons_zero, List.set_cons_succ]
            rfl
          refine pure_ (i := 12) (N := some 119) (v := ?_) (a' := ?_) #[true, true, true, true, true, true, true, true, true, true, true, true, true, false, false, false] rfl rfl (by kernel_rfl) (fun _ _ _ h => h) (Or.inl ⟨by rfl, ?_⟩) ?_ ?_   -- extract
          rotate_left
          · intro w'
            go_simp
            with_reducible rfl
          rotate_left
          · simp only [Act.put, List.setIfInBounds_toArray, List.set_cons_zero, List.set_cons_succ]
            rfl
          refine pure_ (i := 13) (N := some 16) (v := ?_) (a' := ?_) #[true, true, true, true, true, true, true, true, true, true, true, true, true, true, false, false] rfl rfl (by kernel_rfl) (fun _ _ _ h => h) (Or.inl ⟨by rfl, ?_⟩) ?_ ?_   -- assign
          rotate_left
          · intro w'
            go_simp
            with_reducible rfl
          rotate_left
          · simp only [Act.put, List.setIfInBounds_toArray, List.set_cons_zero, List.set_cons_succ]
            rfl
          refine pure_ (i := 14) (N := some 17) (v := ?_) (a' := ?_) #[true, true, true, true, true, true, true, true, true, true, true, true, true, true, true, false] rfl rfl (by kernel_rfl) (fun _ _ _ h => h) (Or.inl ⟨by rfl, ?_⟩) ?_ ?_   -- assign
          rotate_left
          · intro w'
            go_simp
            with_reducible rfl
          rotate_left
          · simp only [Act.put, List.setIfInBounds_toArray, List.set_cons_zero, List.set_cons_succ]
            rfl
          refine pure_ (i := 15) (N := some 18) (v := ?_) (a' := ?_) #[true, true, true, true, true, true, true, true, true, true, true, true, true, true, true, true] rfl rfl (by kernel_rfl) (fun _ _ _ h => h) (Or.inl ⟨by rfl, ?_⟩) ?_ ?_   -- assign
          rotate_left
          · intro w'
            go_simp
            with_reducible rfl
          rotate_left
          · simp only [Act.put, List.setIfInBounds_toArray, List.set_cons_zero, List.set_cons_succ]
            rfl
          refine done_ (by kernel_rfl) ?_
          obtain ⟨b1, b2, b3⟩ := HSS _ HF6.out
          obtain ⟨A6, c6, rfl, hc6⟩ := G_slice HG6.out
          have HG6s := Lib.hid HG6.out
          clear HSS hHeld HG6
          have HBd := Lib.hid HT6.out.below
          go_wp2_with fail
          refine (rduet_store HT6.out s.f1 s.f2 hp1.1 s.f3 (Kd.F_below HF3.out HBd.out) hl3 (fun k h => h) HL3.out.1).mono ?_
          rw [HSr.out]
          rintro e w7 ⟨v7, rfl, hR7, h7, hF7⟩
          dsimp only at hR7
          have HT7 := Lib.hid h7
          have HR7 := Lib.hid hR7
          have HG7 := Lib.hid (G_fr (G_bound HG6s.out) hF7 (fun k hk h => by have h1 := hk.1; have h2 := h.2; have h3 : wa.heap.size ≤ w5.heap.size := HB5.out.size; omega))
          clear h7 hR7 hF7 b1 b2 b3 HG6s
          obtain ⟨A7, c7, rfl, hc7, hf7⟩ := HR7.out
          have HF7 := Lib.hid hf7
          clear hf7
          go_wp2_with fail
          refine (rsame_calls sput (G_C HG7.out) hc6 (Kd.F_now HF7.out) hc7 hsn HM.out).mono ?_
          rintro e w8 ⟨rfl, hb8⟩
          have HT8 := Lib.hid (HT7.out.down hb8)
          clear hb8
          go_wp2_with fail
          exact ⟨⟨k + 1, by omega, by simp, _, HT8.out.wider HT8.out.ge (fun k h => h) HT8.out.ge2 (fun k h => h)⟩, by simp [intOf]; omega⟩
        have hs1' : (s.f0 == 1) = false := by simpa using hs1
        by_cases hs2 : s.f0 = 2
        · have hs2' : (s.f0 == 2) = true := by simpa using hs2
          have hgk : g < wq.heap.size ∧ g2 < wq.heap.size := ⟨HTq.out.now.fg.2, HTq.out.now.fg2.2⟩
          have hwr : w.heap.size ≤ wq.heap.size := HTq.out.below.size
          have HWa := Lib.hid (fun o => below_alloc (Below.refl wq.heap.size wq) o)
          have HBx := Lib.hid (fun o => blk_new wq o)
          have hsa : ∀ o, (wq.alloc o).heap.size = wq.heap.size + 1 := fun o => World.size_alloc _ _
          go_wp2_with fail
          have HBox := Lib.hid (HBx.out (.cells #[.int .i64 2, .int .u64 s.f1, .int .u64 s.f2, .slice B3 s.f3.length d3, .int .i64 s.f4] 45))
          have HTa := Lib.hid (HTq.out.now.down (HWa.out (.cells #[.int .i64 2, .int .u64 s.f1, .int .u64 s.f2, .slice B3 s.f3.length d3, .int .i64 s.f4] 45)))
          have hsz := hsa (.cells #[.int .i64 2, .int .u64 s.f1, .int .u64 s.f2, .slice B3 s.f3.length d3, .int .i64 s.f4] 45)
          clear hsa HWa HBx HTq e0 e1 e2 e3 e4
          generalize (wq.alloc (.cells #[.int .i64 2, .int .u64 s.f1, .int .u64 s.f2, .slice B3 s.f3.length d3, .int .i64 s.f4] 45)) = wa at *
          have HSS : ∀ w', Fr wa w' (fun k => (w.heap.size ≤ k) ∧ k < wq.heap.size) → (fun w' => w'.cell? ⟨wq.heap.size, 1, none⟩ = some (.int .u64 s.f1)) w' := fun w' hf => blk_cell (hf.blk (by rintro ⟨h1, h2⟩; omega) HBox.out) 1
          refine start_ (n := 10) (S := (fun w' => w'.cell? ⟨wq.heap.size, 1, none⟩ = some (.int .u64 s.f1))) (ds := [7]) #[false, false, false, false, false, false, false, false, false, false] (by kernel_rfl) rfl rfl (by exact HSS _ (Fr.refl wa _).drew) (fun hHeld => ?_)
          refine pure_ (i := 0) (N := some 147) (v := ?_) (a' := ?_) #[true, false, false, false, false, false, false, false, false, false] rfl rfl (by kernel_rfl) (fun _ _ _ h => h) (Or.inl ⟨by rfl, ?_⟩) ?_ ?_   -- move
          rotate_left
          · intro w'
            go_simp
            with_reducible rfl
          rotate_left
          · simp only [Act.put, List.setIfInBounds_toArray, List.set_cons_zero, List.set_cons_succ]
            rfl
          refine pure_ (i := 1) (N := some 148) (v := ?_) (a' := ?_) #[true, true, false, false, false, false, false, false, false, false] rfl rfl (by kernel_rfl) (fun _ _ _ h => h) (Or.inl ⟨by rfl, ?_⟩) ?_ ?_   -- fieldAddr
          rotate_left
          · intro w'
            go_simp
            with_reducible rfl
          rotate_left
          · simp only [Act.put, List.setIfInBounds_toArray, List.set_cons_zero, List.set_cons_succ]
            rfl
          refine pure_ (i := 4) (N := some 151) (v := ?_) (a' := ?_) #[true, true, false, false, true, false, false, false, false, false] rfl rfl (by kernel_rfl) (fun _ _ _ h => h) (Or.inl ⟨by rfl, ?_⟩) ?_ ?_   -- move
          rotate_left
          · intro w'
            go_simp
            with_reducible rfl
          rotate_left
          · simp only [Act.put, List.setIfInBounds_toArray, List.set_cons_zero, List.set_cons_succ]
            rfl
          refine pure_ (i := 5) (N := some 152) (v := ?_) (a' := ?_) #[true, true, false, false, true, true, false, false, false, false] rfl rfl (by kernel_rfl) (fun _ _ _ h => h) (Or.inl ⟨by rfl, ?_⟩) ?_ ?_   -- fieldAddr
          rotate_left
          · intro w'
            go_simp
            with_reducible rfl
          rotate_left
          · simp only [Act.put, List.setIfInBounds_toArray, List.set_cons_zero, List.set_cons_succ]
            rfl
          refine take_ (i := 2) (N := some 149) (v := ?_) (a' := ?_) #[true, true, true, false, true, true, false, false, false, false] rfl rfl (by kernel_rfl) (fun _ _ _ h => h) (Or.inl ⟨by rfl, ?_⟩) hHeld ?_ ?_   -- Go.Op.load 27 (Go.Operand.tmp 148)
          rotate_left
          · rintro w' s0
            go_simp
            with_reducible rfl
          rotate_left
          · simp only [Act.put, List.setIfInBounds_toArray, List.set_cons_zero, List.set_cons_succ]
            rfl
          refine take_ (i := 6) (N := some 153) (v := ?_) (a' := ?_) #[true, true, true, false, true, true, true, false, false, false] rfl rfl (by kernel_rfl) (fun _ _ _ h => h) (Or.inl ⟨by rfl, ?_⟩) hHeld ?_ ?_   -- Go.Op.load 27 (Go.Operand.tmp 152)
          rotate_left
          · rintro w' s0
            go_simp
            with_reducible rfl
          rotate_left
          · simp only [Act.put, List.setIfInBounds_toArray, List.set_cons_zero, List.set_cons_succ]
            rfl
          refine one_ (i := 3) (N := some 150) #[true, true, true, true, true, true, true, false, false, false] rfl rfl (by kernel_rfl) (by decide) (fun K hK => ?_)   -- Go.Op.call { callee := Go.Callee.value (Go.Operand.func 12), args := #[Go.Operand.tmp 147, Go.Operand.tmp 149]
          refine goes_ Try.func12 (by kernel_rfl) rfl #[.pointer (some ⟨g, 0, none⟩), .int .u64 s.f1] (by rfl) rfl rfl (by simp only [List.map_toArray, List.map_cons, List.map_nil]; rfl) ?_
          refine (duet_compact (HTa.out.down (below_drew (Below.refl _ _))) s.f1).mono ?_
          rintro e w5 ⟨rfl, h5, hF5⟩
          have HT5 := Lib.hid h5
          have HF5 := Lib.hid ((Fr.refl wa (fun k => (w.heap.size ≤ k) ∧ k < wq.heap.size)).drew.trans hF5 (fun _ h => .inl h))
          clear h5 hF5
          refine ⟨_, rfl, ?_⟩
          refine hK.out _ _ (HSS _ HF5.out) (fun hHeld => ?_)
          clear hK K
          refine norm_ (a' := ?_) ?_ ?_
          rotate_left
          · show Act.put _ (some 150) _ = _
            simp only [Act.put, List.setIfInBounds_toArray, List.set_cons_zero, List.set_cons_succ]
            rfl
          refine last_ (i := 7) (N := some 154) #[true, true, true, true, true, true, true, true, false, false] rfl rfl (by kernel_rfl) (by decide) (fun K hK => ?_)   -- Go.Op.call { callee := Go.Callee.value (Go.Operand.func 26), args := #[Go.Operand.tmp 151, Go.Operand.tmp 153]
          refine goes_ Try.func26 (by kernel_rfl) rfl #[.pointer (some ⟨g2, 0, none⟩), .int .u64 s.f1] (by rfl) rfl rfl (by simp only [List.map_toArray, List.map_cons, List.map_nil]; rfl) ?_
          refine (rduet_compact HT5.out s.f1).mono ?_
          rintro e w6 ⟨rfl, h6, _⟩
          have HT6 := Lib.hid h6
          clear h6
          refine ⟨_, rfl, ?_⟩
          refine hK.out _ _ ?_
          clear hK K
          refine norm_ (a' := ?_) ?_ ?_
          rotate_left
          · show Act.put _ (some 154) _ = _
            simp only [Act.put, List.setIfInBounds_toArray, List.set_cons_zero, List.set_cons_succ]
            rfl
          refine pure_ (i := 8) (N := some 155) (v := ?_) (a' := ?_) #[true, true, true, true, true, true, true, true, true, false] rfl rfl (by kernel_rfl) (fun _ _ _ h => h) (Or.inl ⟨by rfl, ?_⟩) ?_ ?_   -- binOp
          rotate_left
          · intro w'
            go_simp
            with_reducible rfl
          rotate_left
          · simp only [Act.put, List.setIfInBounds_toArray, List.set_cons_zero, List.set_cons_succ]
            rfl
          refine pure_ (i := 9) (N := some 14) (v := ?_) (a' := ?_) #[true, true, true, true, true, true, true, true, true, true] rfl rfl (by kernel_rfl) (fun _ _ _ h => h) (Or.inl ⟨by rfl, ?_⟩) ?_ ?_   -- assign
          rotate_left
          · intro w'
            go_simp
            with_reducible rfl
          rotate_left
          · simp only [Act.put, List.setIfInBounds_toArray, List.set_cons_zero, List.set_cons_succ]
            rfl
          refine done_ (by kernel_rfl) ?_
          clear HSS hHeld
          go_wp2_with fail
          exact ⟨⟨k + 1, by omega, by simp, _, HT6.out.wider HT6.out.ge (fun k h => h) HT6.out.ge2 (fun k h => h)⟩, by simp [intOf]; omega⟩
        have hs2' : (s.f0 == 2) = false := by simpa using hs2
        by_cases hs3 : s.f0 = 3
        · have hs3' : (s.f0 == 3) = true := by simpa using hs3
          have hgk : g < wq.heap.size ∧ g2 < wq.heap.size := ⟨HTq.out.now.fg.2, HTq.out.now.fg2.2⟩
          have hwr : w.heap.size ≤ wq.heap.size := HTq.out.below.size
          have HWa := Lib.hid (fun o => below_alloc (Below.refl wq.heap.size wq) o)
          have HBx := Lib.hid (fun o => blk_new wq o)
          have hsa : ∀ o, (wq.alloc o).heap.size = wq.heap.size + 1 := fun o => World.size_alloc _ _
          go_wp2_with fail
          have HBox := Lib.hid (HBx.out (.cells #[.int .i64 3, .int .u64 s.f1, .int .u64 s.f2, .slice B3 s.f3.length d3, .int .i64 s.f4] 45))
          have HTa := Lib.hid (HTq.out.now.down (HWa.out (.cells #[.int .i64 3, .int .u64 s.f1, .int .u64 s.f2, .slice B3 s.f3.length d3, .int .i64 s.f4] 45)))
          have hsz := hsa (.cells #[.int .i64 3, .int .u64 s.f1, .int .u64 s.f2, .slice B3 s.f3.length d3, .int .i64 s.f4] 45)
          clear hsa HWa HBx HTq e0 e1 e2 e3 e4
          generalize (wq.alloc (.cells #[.int .i64 3, .int .u64 s.f1, .int .u64 s.f2, .slice B3 s.f3.length d3, .int .i64 s.f4] 45)) = wa at *
          obtain ⟨sl, hsl⟩ : ∃ sl, st.slice s.f1 s.f4 = sl := ⟨_, rfl⟩
          have hsi := seg_in st s.f1 s.f4
          rw [hsl] at hsi
          have hlen := HTa.out.ok1.len
          have HM := Lib.hid (show ∀ e, e ∈ sl.1 → e.f4.length ≤ 4096 from fun e he => by have := mayE_conf (HTa.out.ok1.may e (hsi.2 e he)); omega)
          have hsn : sl.1.length ≤ 4096 := by omega
          have HSl := Lib.hid hsl
          obtain ⟨sl1, sl2⟩ := sl
          dsimp only at hsn
          clear hsl hsi
          refine (duet_slice HTa.out s.f1 s.f4 hp1.2).mono ?_
          rw [HSl.out]
          rintro e w5 ⟨v5, rfl, hG5, hb5⟩
          dsimp only at hG5
          have HG5 := Lib.hid hG5
          have HT5 := Lib.hid (HTa.out.down hb5)
          have HBox5 := Lib.hid (blk_below HBox.out hb5)
          obtain ⟨A5, c5, rfl, hc5⟩ := G_slice hG5
          clear hG5 hb5 HTa HBox
          have b1 := blk_cell HBox5.out 1
          have b4 := blk_cell HBox5.out 4
          simp only [List.getElem?_toArray, List.getElem?_cons_succ, List.getElem?_cons_zero] at b1 b4
          go_wp2_with fail
          refine (rduet_slice HT5.out s.f1 s.f4).mono ?_
          rw [HSl.out]
          rintro e w6 ⟨v6, rfl, hG6, hb6⟩
          dsimp only at hG6
          have HG6 := Lib.hid hG6
          have HG56 := Lib.hid (G_below HG5.out hb6)
          have HT6 := Lib.hid (HT5.out.down hb6)
          obtain ⟨A6, c6, rfl, hc6⟩ := G_slice hG6
          clear hG6 hb6 HT5 HBox5 b1 b4 HG5
          go_wp2_with fail
          refine (rsame_calls sl1 (G_C HG56.out) hc5 (G_C HG6.out) hc6 hsn HM.out).mono ?_
          rintro e w7 ⟨rfl, hb7⟩
          have HT7 := Lib.hid (HT6.out.down hb7)
          clear hb7 HT6
          go_wp2_with fail
          exact ⟨⟨k + 1, by omega, by simp, _, HT7.out.wider HT7.out.ge (fun k h => h) HT7.out.ge2 (fun k h => h)⟩, by simp [intOf]; omega⟩
        have hs3' : (s.f0 == 3) = false := by simpa using hs3
        go_wp2_with fail
        exact ⟨⟨k + 1, by omega, by simp, st, HTq.out.down (below_alloc (Below.refl _ _) _)⟩, by simp [intOf]; omega⟩
      · obtain rfl : k = script.length := by omega
        have hkk : ((script.length : Int) == (script.length : Int)) = true := by simp
        go_wp2_with fail
        refine (works_any _).mono ?_
        rintro e w5 ⟨rfl, hb⟩
        have HB5 := Lib.hid (HTq.out.down hb).below
        clear hb
        go_wp2_with fail
        go_ret
        exact ⟨rfl, HB5.out⟩
end Go.Proofs.Ytpnmodkddiljeaa
