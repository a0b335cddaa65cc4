/- Compact. Conditions: the log is in order. -/
import Derived.Test.YtpnmodkddiljeaaSlice
namespace Go.Proofs.Ytpnmodkddiljeaa
open Go.RowKit Go.Proofs.YtpnmodkddiljeaaW.PrintWords Go.Proofs.YtpnmodkddiljeaaW.PrintLast PEntryPlays Go.Shelf

def LS.compact (st : LS) (i : Int) : LS × Int :=
  if (st.termAt i).2 = 0 then (⟨i, (st.termAt i).1, (st.says i).1, st.l.drop (i - st.index).toNat⟩, 0) else (st, (st.termAt i).2)

set_option maxHeartbeats 400000 in
theorem compact_nil (i : Int) (w : World) : Calls Try.prog 12 #[.pointer none, .int .u64 i] w fun e w' => e = .returned (.int .i64 1) ∧ Below w.heap.size w w' := by
  go_enter Try.func12, Try.ntmps12
  go_wp2_with fail
  refine (term_nil i _).mono ?_
  rintro e w1 ⟨rfl, hb⟩
  have HB := Lib.hid hb
  clear hb
  go_wp2
  go_ret
  exact ⟨rfl, HB.out⟩

theorem termAt_in {st : LS} (hok : LSok st) {i : Int} (h : (st.termAt i).2 = 0) : st.index ≤ i ∧ i ≤ st.index + st.l.length := by
  have hl := hok.last1
  unfold LS.termAt at h
  split at h
  · simp at h
  split at h
  · simp at h
  · omega

set_option maxHeartbeats 1000000 in
set_option maxRecDepth 100000 in
theorem compact_ok {g : Nat} {w : World} {ok : Nat → Prop} {lv : Value} {st : LS} (h : IsL 70 g w ok lv st) (hok : LSok st) (i : Int) (h0 : (st.termAt i).2 = 0) :
    Calls Try.prog 12 #[.pointer (some ⟨g, 0, none⟩), .int .u64 i] w fun e w' => e = .returned (.int .i64 0) ∧ Left 70 g w ok lv ⟨i, (st.termAt i).1, (st.says i).1, st.l.drop (i - st.index).toNat⟩ w' := by
  obtain ⟨hi1, hi2⟩ := termAt_in hok h0
  obtain ⟨n, hn⟩ : ∃ n : Nat, i - st.index = n := ⟨(i - st.index).toNat, by omega⟩
  rw [hn, Int.toNat_natCast]
  obtain ⟨dl, hdl⟩ : ∃ dl, st.l.drop n = dl := ⟨_, rfl⟩
  rw [hdl]
  have HD := Lib.hid hdl
  clear hdl
  have hlen := hok.len
  have hx0 := hok.i0
  have hx1 := hok.i1
  have hgl := h.lt
  have HT := Lib.hid (term_any h hok i)
  have HSy := Lib.hid (fun w1 hb => says_any (w := w1) (h.below hb) hok i)
  have H := Lib.hid (IsL.bound h)
  clear h hok
  generalize (st.says i).1 = sc at *
  generalize (st.says i).2 = si at *
  generalize st.termAt i = p at *
  obtain ⟨a, b0⟩ := p
  dsimp only at *
  subst h0
  have q0 : IntKind.u64.wrap (i - st.index) = n := (IntWalk.u64_in _ (by omega)).trans hn
  have z2 : (0 : Int) ≤ (n : Int) := by omega
  have z3 : (n : Int) ≤ (st.l.length : Int) := by omega
  have z4 : n ≤ st.l.length := by omega
  clear hn
  go_enter Try.func12, Try.ntmps12
  go_wp2_with fail
  refine HT.out.mono ?_
  rintro e w1 ⟨rfl, hb⟩
  have HB := Lib.hid hb
  clear hb
  go_wp2_with fail
  refine (HSy.out _ HB.out).mono ?_
  rintro e w2 ⟨v, rfl, hv, hb⟩
  have HB2 := Lib.hid (below_then HB.out HB.out.size hb)
  have HV := Lib.hid (G_mono hv (fun k hk => Nat.le_trans HB.out.size hk))
  obtain ⟨Av, cv, rfl, _⟩ := G_slice hv
  obtain ⟨⟨cv0, hb1, _⟩, hl1⟩ := H.out.below HB2.out
  obtain ⟨A, c, rfl, hlc⟩ := G_slice hl1
  have HL := Lib.hid hl1
  have HBl := Lib.hid hb1
  have c0 := blk_cell hb1
  have f0 := blk_frozen hb1
  clear hv hb hb1 hl1
  go_wp2_with fail
  clear c0 f0
  have hown2 := HL.out.1
  have hne2 : ∀ k, (ok k ∧ k < w.heap.size) ∧ k ≠ g → k ≠ g := fun k h => h.2
  have HBl3 := Lib.hid (by simpa using blk_set HBl.out 2 (.slice Av sc.length cv))
  have HL3 := Lib.hid (G_set HL.out (p := ⟨g, 2, none⟩) (fun h => h.2 rfl) (.slice Av sc.length cv))
  have HF3 := Lib.hid ((Fr.of_below HB2.out (fun k => k = g)).setCell (p := ⟨g, 2, none⟩) (.inl rfl) (.slice Av sc.length cv))
  have HV3 := Lib.hid (G_set HV.out (p := ⟨g, 2, none⟩) (by dsimp only; omega) (.slice Av sc.length cv))
  have hs3 : w.heap.size ≤ (w2.setCell ⟨g, 2, none⟩ (.slice Av sc.length cv)).heap.size := HF3.out.size
  generalize w2.setCell ⟨g, 2, none⟩ (.slice Av sc.length cv) = w3 at *
  clear HB2 HV HL HBl HB hown2 hne2
  have d3 := blk_cell HBl3.out 3
  have d0 := blk_cell HBl3.out 0
  simp only [List.getElem?_toArray, List.getElem?_cons_succ, List.getElem?_cons_zero] at d3 d0
  have HS : ∀ w', Fr w3 w' (fun _ => False) → (fun w' => w'.cell? ⟨g, 3, none⟩ = some (.slice A st.l.length c) ∧ w'.cell? ⟨g, 0, none⟩ = some (.int .u64 st.index)) w' := fun w' hf => ⟨hf.cell (fun h => h) d3, hf.cell (fun h => h) d0⟩
  clear d3 d0
  refine start_ (n := 16) (S := (fun w' => w'.cell? ⟨g, 3, none⟩ = some (.slice A st.l.length c) ∧ w'.cell? ⟨g, 0, none⟩ = some (.int .u64 st.index))) (ds := [15]) #[false, false, false, false, false, false, false, false, false, false, false, false, false, false, false, false] (by kernel_rfl) rfl rfl (by exact HS _ (Fr.refl w3 _).drew) (fun hHeld => ?_)
  refine pure_ (i := 0) (N := some 25) (v := ?_) (a' := ?_) #[true, false, false, false, false, false, false, false, false, false, false, false, false, false, false, false] rfl rfl (by kernel_rfl) (fun _ _ _ h => h) (Or.inl ⟨by rfl, ?_⟩) ?_ ?_   -- move
  rotate_left
  · intro w'
    go_simp
    with_reducible rfl
  rotate_left
  · simp only [Act.put, List.setIfInBounds_toArray, List.set_cons_zero, List.set_cons_succ]
    rfl
  refine pure_ (i := 1) (N := some 26) (v := ?_) (a' := ?_) #[true, true, false, false, false, false, false, false, false, false, false, false, false, false, false, false] rfl rfl (by kernel_rfl) (fun _ _ _ h => h) (Or.inl ⟨by rfl, ?_⟩) ?_ ?_   -- move
  rotate_left
  · intro w'
    go_simp
    with_reducible rfl
  rotate_left
  · simp only [Act.put, List.setIfInBounds_toArray, List.set_cons_zero, List.set_cons_succ]
    rfl
  refine pure_ (i := 2) (N := some 27) (v := ?_) (a' := ?_) #[true, true, true, false, false, false, false, false, false, false, false, false, false, false, false, false] rfl rfl (by kernel_rfl) (fun _ _ _ h => h) (Or.inl ⟨by rfl, ?_⟩) ?_ ?_   -- nilCheck
  rotate_left
  · intro w'
    go_simp
    with_reducible rfl
  rotate_left
  · simp only [Act.put, List.setIfInBounds_toArray, List.set_cons_zero, List.set_cons_succ]
    rfl
  refine pure_ (i := 3) (N := some 28) (v := ?_) (a' := ?_) #[true, true, true, true, false, false, false, false, false, false, false, false, false, false, false, false] rfl rfl (by kernel_rfl) (fun _ _ _ h => h) (Or.inl ⟨by rfl, ?_⟩) ?_ ?_   -- fieldAddr
  rotate_left
  · intro w'
    go_simp
    with_reducible rfl
  rotate_left
  · simp only [Act.put, List.setIfInBounds_toArray, List.set_cons_zero, List.set_cons_succ]
    rfl
  refine pure_ (i := 5) (N := some 30) (v := ?_) (a' := ?_) #[true, true, true, true, false, true, false, false, false, false, false, false, false, false, false, false] rfl rfl (by kernel_rfl) (fun _ _ _ h => h) (Or.inl ⟨by rfl, ?_⟩) ?_ ?_   -- move
  rotate_left
  · intro w'
    go_simp
    with_reducible rfl
  rotate_left
  · simp only [Act.put, List.setIfInBounds_toArray, List.set_cons_zero, List.set_cons_succ]
    rfl
  refine pure_ (i := 6) (N := some 31) (v := ?_) (a' := ?_) #[true, true, true, true, false, true, true, false, false, false, false, false, false, false, false, false] rfl rfl (by kernel_rfl) (fun _ _ _ h => h) (Or.inl ⟨by rfl, ?_⟩) ?_ ?_   -- move
  rotate_left
  · intro w'
    go_simp
    with_reducible rfl
  rotate_left
  · simp only [Act.put, List.setIfInBounds_toArray, List.set_cons_zero, List.set_cons_succ]
    rfl
  refine pure_ (i := 7) (N := some 32) (v := ?_) (a' := ?_) #[true, true, true, true, false, true, true, true, false, false, false, false, false, false, false, false] rfl rfl (by kernel_rfl) (fun _ _ _ h => h) (Or.inl ⟨by rfl, ?_⟩) ?_ ?_   -- nilCheck
  rotate_left
  · intro w'
    go_simp
    with_reducible rfl
  rotate_left
  · simp only [Act.put, List.setIfInBounds_toArray, List.set_cons_zero, List.set_cons_succ]
    rfl
  refine pure_ (i := 8) (N := some 33) (v := ?_) (a' := ?_) #[true, true, true, true, false, true, true, true, true, false, false, false, false, false, false, false] rfl rfl (by kernel_rfl) (fun _ _ _ h => h) (Or.inl ⟨by rfl, ?_⟩) ?_ ?_   -- fieldAddr
  rotate_left
  · intro w'
    go_simp
    with_reducible rfl
  rotate_left
  · simp only [Act.put, List.setIfInBounds_toArray, List.set_cons_zero, List.set_cons_succ]
    rfl
  refine take_ (i := 4) (N := some 29) (v := ?_) (a' := ?_) #[true, true, true, true, true, true, true, true, true, false, false, false, false, false, false, false] rfl rfl (by kernel_rfl) (fun _ _ _ h => h) (Or.inl ⟨by rfl, ?_⟩) hHeld ?_ ?_   -- Go.Op.load 33 (Go.Operand.tmp 28)
  rotate_left
  · rintro w' ⟨s0, s1⟩
    go_simp
    with_reducible rfl
  rotate_left
  · simp only [Act.put, List.setIfInBounds_toArray, List.set_cons_zero, List.set_cons_succ]
    rfl
  refine take_ (i := 9) (N := some 34) (v := ?_) (a' := ?_) #[true, true, true, true, true, true, true, true, true, true, false, false, false, false, false, false] rfl rfl (by kernel_rfl) (fun _ _ _ h => h) (Or.inl ⟨by rfl, ?_⟩) hHeld ?_ ?_   -- Go.Op.load 27 (Go.Operand.tmp 33)
  rotate_left
  · rintro w' ⟨s0, s1⟩
    go_simp
    with_reducible rfl
  rotate_left
  · simp only [Act.put, List.setIfInBounds_toArray, List.set_cons_zero, List.set_cons_succ]
    rfl
  refine pure_ (i := 10) (N := some 35) (v := ?_) (a' := ?_) #[true, true, true, true, true, true, true, true, true, true, true, false, false, false, false, false] rfl rfl (by kernel_rfl) (fun _ _ _ h => h) (Or.inl ⟨by rfl, ?_⟩) ?_ ?_   -- binOp
  rotate_left
  · intro w'
    go_simp
    with_reducible rfl
  rotate_left
  · simp only [Act.put, List.setIfInBounds_toArray, List.set_cons_zero, List.set_cons_succ]
    rfl
  refine pure_ (i := 11) (N := some 36) (v := ?_) (a' := ?_) #[true, true, true, true, true, true, true, true, true, true, true, true, false, false, false, false] rfl rfl (by kernel_rfl) (fun _ _ _ h => h) (Or.inl ⟨by rfl, ?_⟩) ?_ ?_   -- slice
  rotate_left
  · intro w'
    go_simp
    with_reducible rfl
  rotate_left
  · simp only [Act.put, List.setIfInBounds_toArray, List.set_cons_zero, List.set_cons_succ]
    rfl
  refine one_ (i := 12) (N := some 37) #[true, true, true, true, true, true, true, true, true, true, true, true, true, false, false, false] rfl rfl (by kernel_rfl) (by decide) (fun K hK => ?_)   -- Go.Op.call { callee := Go.Callee.value (Go.Operand.func 41), args := #[Go.Operand.tmp 36], argTypes := #[33] }
  refine goes_ Try.func41 (by kernel_rfl) rfl #[.slice (if c = n then A else Option.map (fun x => x.add (n * 5)) A) (st.l.length - n) (c - n)] (by rfl) rfl rfl (by simp only [List.map_toArray, List.map_cons, List.map_nil]; rfl) ?_
  have hdr := G_drop (G_drew HL3.out) (m := n) z4
  have hdl : st.l.length - n = dl.length := by rw [← HD.out]; simp
  rw [HD.out, hdl] at hdr
  rw [hdl]
  refine (clone_ent _ _ dl _ _ (G_F hdr) (by omega)).mono ?_
  clear hdr hdl
  rintro e w4 ⟨v4, rfl, hv4, hn4, hb4⟩
  have HF4 := Lib.hid (Fr.of_below (below_then (below_drew (Below.refl w3.heap.size w3)) (Nat.le_refl _) hb4) (fun _ => False))
  have HG4 := Lib.hid hv4
  have HN4 := Lib.hid hn4
  obtain ⟨A4, c4, rfl, _⟩ := G_slice hv4
  have HBl4 := Lib.hid (HF4.out.blk (fun h => h) HBl3.out)
  clear hv4 hn4 hb4
  refine ⟨_, rfl, ?_⟩
  refine hK.out _ _ (HS _ HF4.out) (fun hHeld => ?_)
  clear hK K
  refine norm_ (a' := ?_) ?_ ?_
  rotate_left
  · show Act.put _ (some 37) _ = _
    simp only [Act.put, List.setIfInBounds_toArray, List.set_cons_zero, List.set_cons_succ]
    rfl
  refine pure_ (i := 13) (N := some 38) (v := ?_) (a' := ?_) #[true, true, true, true, true, true, true, true, true, true, true, true, true, true, false, false] rfl rfl (by kernel_rfl) (fun _ _ _ h => h) (Or.inl ⟨by rfl, ?_⟩) ?_ ?_   -- nilCheck
  rotate_left
  · intro w'
    go_simp
    with_reducible rfl
  rotate_left
  · simp only [Act.put, List.setIfInBounds_toArray, List.set_cons_zero, List.set_cons_succ]
    rfl
  refine pure_ (i := 14) (N := some 39) (v := ?_) (a' := ?_) #[true, true, true, true, true, true, true, true, true, true, true, true, true, true, true, false] rfl rfl (by kernel_rfl) (fun _ _ _ h => h) (Or.inl ⟨by rfl, ?_⟩) ?_ ?_   -- fieldAddr
  rotate_left
  · intro w'
    go_simp
    with_reducible rfl
  rotate_left
  · simp only [Act.put, List.setIfInBounds_toArray, List.set_cons_zero, List.set_cons_succ]
    rfl
  refine last_ (i := 15) (N := none) #[true, true, true, true, true, true, true, true, true, true, true, true, true, true, true, true] rfl rfl (by kernel_rfl) (by decide) (fun K hK => ?_)   -- Go.Op.store 33 (Go.Operand.tmp 39) (Go.Operand.tmp 37)
  have c0 := blk_cell HBl4.out
  have f0 := blk_frozen HBl4.out
  refine skip_ (by rfl) rfl (by go_simp; rfl) ?_
  refine hK.out _ _ ?_
  clear hK K c0 f0
  refine done_ (by kernel_rfl) ?_
  have HBl5 := Lib.hid (show (w4.setCell ⟨g, 3, none⟩ (.slice A4 dl.length c4)).heap[g]? = some (.cells #[.int .u64 st.index, .int .u64 st.term, .slice Av sc.length cv, .slice A4 dl.length c4] 70 (0, 0)) from blk_set HBl4.out 3 _)
  have c0 := blk_cell HBl5.out
  have f0 := blk_frozen HBl5.out
  have HG5 := Lib.hid (G_set (G_mono HG4.out (ok' := fun k => (ok k ∨ w.heap.size ≤ k) ∧ k ≠ g) (fun k hk => by
    rcases hk with ⟨hk, _⟩ | hk
    · exact ⟨.inl hk.1.1, hk.2⟩
    · have : w3.heap.size ≤ k := hk
      exact ⟨.inr (by omega), by omega⟩)) (p := ⟨g, 3, none⟩) (fun h => h.2 rfl) (.slice A4 dl.length c4))
  have HF5 := Lib.hid ((HF3.out.trans HF4.out (fun _ h => h.elim)).setCell (p := ⟨g, 3, none⟩) (.inl rfl) (.slice A4 dl.length c4))
  have HV5 := Lib.hid (G_set (G_fr (G_bound HV3.out) HF4.out (fun _ _ h => h)) (p := ⟨g, 3, none⟩) (by dsimp only; omega) (.slice A4 dl.length c4))
  clear HS hHeld
  generalize (if c = n then A else Option.map (fun x => Addr.add x (n * 5)) A) = AA
  generalize w4.setCell ⟨g, 3, none⟩ (.slice A4 dl.length c4) = w5 at *
  go_wp2_with fail
  go_ret
  refine ⟨rfl, .slice A4 dl.length c4, ⟨⟨.slice Av sc.length cv, ?_, ?_⟩, ?_⟩, ?_, ?_⟩
  · exact blk_set (blk_set HBl5.out 0 (.int .u64 i)) 1 (.int .u64 a)
  · refine RV_mono (RV_of_G (G_set (G_set HV5.out (p := ⟨g, 0, none⟩) (by dsimp only; omega) _) (p := ⟨g, 1, none⟩) (by dsimp only; omega) _)) (fun k hk => ⟨.inr hk.1, by have := hk.1; omega, fun he => ?_⟩)
    have h1 : w3.heap.size ≤ k := HN4.out k he.symm
    have h2 := hk.2
    omega
  · exact G_set (G_set HG5.out (p := ⟨g, 0, none⟩) (fun h => h.2 rfl) _) (p := ⟨g, 1, none⟩) (fun h => h.2 rfl) _
  · exact ((HF5.out.mono (S1 := Mine g (.slice A st.l.length c)) (fun _ _ h => .inl h)).setCell (p := ⟨g, 0, none⟩) (.inl (.inl rfl)) _).setCell (p := ⟨g, 1, none⟩) (.inl (.inl rfl)) _
  · intro k hk
    have h1 : w3.heap.size ≤ k := HN4.out k hk
    exact .inr (by omega)

set_option maxHeartbeats 400000 in
theorem compact_no {g : Nat} {w : World} {ok : Nat → Prop} {lv : Value} {st : LS} (h : IsL 70 g w ok lv st) (hok : LSok st) (i : Int) (h0 : ¬ (st.termAt i).2 = 0) :
    Calls Try.prog 12 #[.pointer (some ⟨g, 0, none⟩), .int .u64 i] w fun e w' => e = .returned (.int .i64 (st.termAt i).2) ∧ Below w.heap.size w w' := by
  have HT := Lib.hid (term_any h hok i)
  clear h hok
  generalize st.termAt i = p at *
  obtain ⟨a, b⟩ := p
  dsimp only at *
  have hb1 : (b != 0) = true := by simpa using h0
  clear h0
  go_enter Try.func12, Try.ntmps12
  go_wp2_with fail
  refine HT.out.mono ?_
  rintro e w1 ⟨rfl, hb⟩
  have HB := Lib.hid hb
  clear hb
  go_wp2
  go_ret
  exact ⟨rfl, HB.out⟩

theorem compact_any {g : Nat} {w : World} {ok : Nat → Prop} {lv : Value} {st : LS} (h : IsL 70 g w ok lv st) (hok : LSok st) (i : Int) :
    Calls Try.prog 12 #[.pointer (some ⟨g, 0, none⟩), .int .u64 i] w fun e w' => e = .returned (.int .i64 (st.compact i).2) ∧ Left 70 g w ok lv (st.compact i).1 w' := by
  unfold LS.compact
  by_cases h0 : (st.termAt i).2 = 0
  · rw [if_pos h0]; exact compact_ok h hok i h0
  · rw [if_neg h0]; exact (compact_no h hok i h0).mono fun e w' ⟨a, b⟩ => ⟨a, h.left b⟩
end Go.Proofs.Ytpnmodkddiljeaa
