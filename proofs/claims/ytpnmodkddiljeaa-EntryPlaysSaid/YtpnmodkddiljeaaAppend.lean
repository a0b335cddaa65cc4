/- (*entry.Log).Append. Conditions: the log is in order. -/
import Derived.Test.YtpnmodkddiljeaaAsk
namespace Go.Proofs.Ytpnmodkddiljeaa
open Go.RowKit Go.Proofs.YtpnmodkddiljeaaW.PrintWords Go.Proofs.YtpnmodkddiljeaaW.PrintLast PEntryPlays

def LS.append (st : LS) (x : S31) : LS × Int :=
  if mayE x = false then (st, 2) else if x.f0 ≠ IntKind.u64.wrap (st.last.1 + 1) ∨ x.f1 < st.last.2 then (st, 261) else if 4096 ≤ st.l.length then (st, 6) else ({ st with l := st.l ++ [x] }, 0)

/-- What a call on a log leaves of its row: the row of before, or a new one. -/
def Next (w : World) (lv lv' : Value) : Prop := ∀ k, lv'.ownBlock = some k → some k = lv.ownBlock ∨ w.heap.size ≤ k
/-- The blocks that a call on a log may write. -/
def Mine (g : Nat) (lv : Value) (k : Nat) : Prop := k = g ∨ some k = lv.ownBlock

/-- What a call leaves of the log at g, whose row was lv. -/
def Left (T g : Nat) (w : World) (ok : Nat → Prop) (lv : Value) (st : LS) (w' : World) : Prop := ∃ lv', IsL T g w' (fun k => ok k ∨ w.heap.size ≤ k) lv' st ∧ Fr w w' (Mine g lv) ∧ Next w lv lv'

theorem mayEntry_calls {w : World} {ok : Nat → Prop} {cv : Value} (x : S31) (hr : RV (Kd.int .i64) w ok cv x.f4) :
    Calls Try.prog 37 #[entV x cv] w fun e w' => e = .returned (.bool (mayE x)) ∧ Below w.heap.size w w' := by
  have hm := RV_max hr
  obtain ⟨A, c, rfl, hl, hf⟩ := hr
  exact msg_MayEntry.calls _ _ _ _ _ _ _ _ _ _ (Kd.F_now hf) hl (mayE_msg x hm _ (Nat.lt_succ_self _))

set_option maxHeartbeats 1000000 in
set_option maxRecDepth 100000 in
theorem append_ok {g : Nat} {w : World} {ok : Nat → Prop} {lv : Value} {st : LS} (h : IsL 70 g w ok lv st) (hok : LSok st) (x : S31) (cv : Value) {okx : Nat → Prop} (hr : RV (Kd.int .i64) w okx cv x.f4)
    (h1 : mayE x = true) (h2 : x.f0 = IntKind.u64.wrap (st.last.1 + 1)) (h3 : ¬ x.f1 < st.last.2) (h4 : st.l.length < 4096) :
    Calls Try.prog 9 #[.pointer (some ⟨g, 0, none⟩), entV x cv] w fun e w' => e = .returned (.int .i64 0) ∧ Left 70 g w ok lv { st with l := st.l ++ [x] } w' := by
  have hcl := (confB_len hok.conf).1
  have hx7 : x.f4.length ≤ 7 := mayE_conf h1
  have H := Lib.hid h
  have HR := Lib.hid hr
  have hlen := hok.len
  obtain ⟨Ac, cc, rfl, hcl2, _⟩ := hr
  have h2' : (x.f0 != IntKind.u64.wrap (st.last.1 + 1)) = false := by simpa using h2
  clear h h2
  generalize hlast : st.last = la at *
  obtain ⟨la, lt⟩ := la
  dsimp only at h2' h3
  have HLa := Lib.hid hlast
  have HLok := Lib.hid hok
  clear hlast hok
  obtain ⟨x0, x1, x2, x3, x4⟩ := x
  dsimp only [entV] at *
  go_enter Try.func9, Try.ntmps9
  go_wp2_with fail
  have hk1 : (w.alloc (.cells #[.int .u64 x0, .int .u64 x1, .int .u8 x2, .string x3, .slice Ac x4.length cc] 31)).heap[w.heap.size]? = some (.cells #[.int .u64 x0, .int .u64 x1, .int .u8 x2, .string x3, .slice Ac x4.length cc] 31 (0, 0)) := blk_new w _
  have Hb0 := below_alloc (Below.refl _ w) (.cells #[.int .u64 x0, .int .u64 x1, .int .u8 x2, .string x3, .slice Ac x4.length cc] 31)
  refine (last_any (H.out.below Hb0) HLok.out.len).mono ?_
  rintro e w1 ⟨rfl, hb⟩
  have hk2 := blk_below hk1 hb
  have Hb1 := below_then Hb0 Hb0.size hb
  rw [HLa.out]
  have HK1 := Lib.hid hk2
  have HB1 := Lib.hid Hb1
  clear hk1 Hb0 hb hk2 Hb1
  go_wp2_with fail
  refine (made_any (H.out.below HB1.out) hcl).mono ?_
  rintro e w' ⟨rfl, rfl⟩
  have c1 := blk_cell HK1.out
  go_wp2_with fail
  refine (mayEntry_calls ⟨x0, x1, x2, x3, x4⟩ (RV_below HR.out HB1.out)).mono ?_
  rintro e w2 ⟨rfl, hb⟩
  have HK2 := Lib.hid (blk_below HK1.out hb)
  have HB2 := Lib.hid (below_then HB1.out HB1.out.size hb)
  rw [h1]
  clear hb c1 HK1
  have c1 := blk_cell HK2.out
  obtain ⟨⟨cv, hbl, hcv⟩, hll⟩ := H.out.below HB2.out
  obtain ⟨A, c, rfl, hlc⟩ := G_slice hll
  have c0 := blk_cell hbl
  have HL := Lib.hid hll
  have HC := Lib.hid hcv
  have HBl := Lib.hid hbl
  clear hbl hcv hll
  go_wp2_with fail
  have hgl : ¬ some g = (Value.slice A st.l.length c).ownBlock := G_ne HL.out HBl.out (by decide)
  have hbl : ¬ some w.heap.size = (Value.slice A st.l.length c).ownBlock := by
    intro he
    have := (G_lt H.out.l) _ he.symm
    omega
  have HS : ∀ w', Fr w2 w' (fun k => some k = (Value.slice A st.l.length c).ownBlock) → (fun w' => w'.cell? ⟨g, 3, none⟩ = some (.slice A st.l.length c) ∧ w'.cell? ⟨w.heap.size, 0, none⟩ = some (.int .u64 x0) ∧ w'.cell? ⟨w.heap.size, 1, none⟩ = some (.int .u64 x1) ∧ w'.cell? ⟨w.heap.size, 2, none⟩ = some (.int .u8 x2) ∧ w'.cell? ⟨w.heap.size, 3, none⟩ = some (.string x3) ∧ w'.cell? ⟨w.heap.size, 4, none⟩ = some (.slice Ac x4.length cc)) w' := fun w' hf =>
    ⟨hf.cell hgl (c0 3), hf.cell hbl (c1 0), hf.cell hbl (c1 1), hf.cell hbl (c1 2), hf.cell hbl (c1 3), hf.cell hbl (c1 4)⟩
  have HF0 : Fr w2 w2.drew (fun k => some k = (Value.slice A st.l.length c).ownBlock) := (Fr.refl _ _).drew
  clear c0 c1
  have HCx := Lib.hid (RV_below HR.out HB2.out)
  refine start_ (n := 12) (S := (fun w' => w'.cell? ⟨g, 3, none⟩ = some (.slice A st.l.length c) ∧ w'.cell? ⟨w.heap.size, 0, none⟩ = some (.int .u64 x0) ∧ w'.cell? ⟨w.heap.size, 1, none⟩ = some (.int .u64 x1) ∧ w'.cell? ⟨w.heap.size, 2, none⟩ = some (.int .u8 x2) ∧ w'.cell? ⟨w.heap.size, 3, none⟩ = some (.string x3) ∧ w'.cell? ⟨w.heap.size, 4, none⟩ = some (.slice Ac x4.length cc))) (ds := [11]) #[false, false, false, false, false, false, false, false, false, false, false, false] (by kernel_rfl) rfl rfl (by exact HS _ HF0) (fun hHeld => ?_)
  refine pure_ (i := 0) (N := some 37) (v := ?_) (a' := ?_) #[true, false, false, false, false, false, false, false, false, false, false, false] rfl rfl (by kernel_rfl) (fun _ _ _ h => h) (Or.inl ⟨by rfl, ?_⟩) ?_ ?_   -- move
  rotate_left
  · intro w'
    go_simp
    with_reducible rfl
  rotate_left
  · simp only [Act.put, List.setIfInBounds_toArray, List.set_cons_zero, List.set_cons_succ]
    rfl
  refine pure_ (i := 1) (N := some 38) (v := ?_) (a' := ?_) #[true, true, false, false, false, false, false, false, false, false, false, false] rfl rfl (by kernel_rfl) (fun _ _ _ h => h) (Or.inl ⟨by rfl, ?_⟩) ?_ ?_   -- move
  rotate_left
  · intro w'
    go_simp
    with_reducible rfl
  rotate_left
  · simp only [Act.put, List.setIfInBounds_toArray, List.set_cons_zero, List.set_cons_succ]
    rfl
  refine pure_ (i := 2) (N := some 39) (v := ?_) (a' := ?_) #[true, true, true, false, false, false, false, false, false, false, false, false] rfl rfl (by kernel_rfl) (fun _ _ _ h => h) (Or.inl ⟨by rfl, ?_⟩) ?_ ?_   -- nilCheck
  rotate_left
  · intro w'
    go_simp
    with_reducible rfl
  rotate_left
  · simp only [Act.put, List.setIfInBounds_toArray, List.set_cons_zero, List.set_cons_succ]
    rfl
  refine pure_ (i := 3) (N := some 40) (v := ?_) (a' := ?_) #[true, true, true, true, false, false, false, false, false, false, false, false] rfl rfl (by kernel_rfl) (fun _ _ _ h => h) (Or.inl ⟨by rfl, ?_⟩) ?_ ?_   -- fieldAddr
  rotate_left
  · intro w'
    go_simp
    with_reducible rfl
  rotate_left
  · simp only [Act.put, List.setIfInBounds_toArray, List.set_cons_zero, List.set_cons_succ]
    rfl
  refine take_ (i := 4) (N := some 41) (v := ?_) (a' := ?_) #[true, true, true, true, true, false, false, false, false, false, false, false] rfl rfl (by kernel_rfl) (fun _ _ _ h => h) (Or.inl ⟨by rfl, ?_⟩) hHeld ?_ ?_   -- Go.Op.load 33 (Go.Operand.tmp 40)
  rotate_left
  · rintro w' ⟨s0, s1, s2, s3, s4, s5⟩
    go_simp
    with_reducible rfl
  rotate_left
  · simp only [Act.put, List.setIfInBounds_toArray, List.set_cons_zero, List.set_cons_succ]
    rfl
  refine take_ (i := 5) (N := some 42) (v := ?_) (a' := ?_) #[true, true, true, true, true, true, false, false, false, false, false, false] rfl rfl (by kernel_rfl) (fun _ _ _ h => h) (Or.inl ⟨by rfl, ?_⟩) hHeld ?_ ?_   -- Go.Op.load 31 (Go.Operand.tmp 3)
  rotate_left
  · rintro w' ⟨s0, s1, s2, s3, s4, s5⟩
    go_simp
    with_reducible rfl
  rotate_left
  · simp only [Act.put, List.setIfInBounds_toArray, List.set_cons_zero, List.set_cons_succ]
    rfl
  refine one_ (i := 6) (N := some 43) #[true, true, true, true, true, true, true, false, false, false, false, false] rfl rfl (by kernel_rfl) (by decide) (fun K hK => ?_)   -- Go.Op.call { callee := Go.Callee.value (Go.Operand.func 38), args := #[Go.Operand.tmp 42], argTypes := #[31] }
  refine goes_ Try.func38 (by kernel_rfl) rfl #[.agg #[.int .u64 x0, .int .u64 x1, .int .u8 x2, .string x3, .slice Ac x4.length cc]] (by rfl) rfl rfl (by simp only [List.map_toArray, List.map_cons, List.map_nil]; rfl) ?_
  refine (own_any ⟨x0, x1, x2, x3, x4⟩ Ac cc _ (Kd.C_drew (RV_C HCx.out)) (by dsimp only; omega)).mono ?_
  rintro e w3 ⟨v, rfl, hv, hb3⟩
  have hb3' : Below w2.heap.size w2 w3 := below_then (below_drew (Below.refl _ _)) (Nat.le_refl _) hb3
  have HF3 : Fr w2 w3 (fun k => some k = (Value.slice A st.l.length c).ownBlock) := Fr.of_below hb3' _
  have HV := Lib.hid hv
  obtain ⟨Av, cv', rfl, hlv⟩ := G_slice hv
  refine ⟨_, rfl, ?_⟩
  refine hK.out _ _ (HS _ HF3) (fun hHeld => ?_)
  clear hK K
  refine norm_ (a' := ?_) ?_ ?_
  rotate_left
  · show Act.put _ (some 43) _ = _
    simp only [Act.put, List.setIfInBounds_toArray, List.set_cons_zero, List.set_cons_succ]
    rfl
  refine one_ (i := 7) (N := some 44) #[true, true, true, true, true, true, true, true, false, false, false, false] rfl rfl (by kernel_rfl) (by decide) (fun K hK => ?_)   -- Go.Op.buildSlice 33 1 #[(0, Go.Operand.tmp 43)]
  refine value_ (by rfl) rfl (by go_simp; exact ⟨rfl, rfl⟩) ?_
  refine hK.out _ _ (HS _ (HF3.alloc _)) (fun hHeld => ?_)
  clear hK K
  refine norm_ (a' := ?_) ?_ ?_
  rotate_left
  · show Act.put _ (some 44) _ = _
    simp only [Act.put, List.setIfInBounds_toArray, List.set_cons_zero, List.set_cons_succ]
    rfl
  refine one_ (i := 8) (N := some 45) #[true, true, true, true, true, true, true, true, true, false, false, false] rfl rfl (by kernel_rfl) (by decide) (fun K hK => ?_)   -- Go.Op.call { callee := Go.Callee.builtin Go.Builtin.append, args := #[Go.Operand.tmp 41, Go.Operand.tmp 44], a
  have HG3 := Lib.hid (G_mono (G_below HL.out hb3') (fun k hk => (⟨.inl hk.1, hk.2⟩ : (ok k ∨ w.heap.size ≤ k) ∧ k ≠ g)))
  have hsz : w.heap.size ≤ w2.heap.size := HB2.out.size
  have hsz3 : w2.heap.size ≤ w3.heap.size := hb3'.size
  have hgs : g < w.heap.size := H.out.lt
  have hown : ∀ k, some k = (Value.slice A st.l.length c).ownBlock → k < w.heap.size := fun k hk => G_lt H.out.l k hk.symm
  refine G_append_step k31 (by rfl) (.tmp 41) (.tmp 44) 33 31 _ 64 rfl Try.underlying33 ent_info rfl (by decide) (.slice A st.l.length c) st.l ⟨x0, x1, x2, x3, x4⟩ _ (fun k => (ok k ∨ w.heap.size ≤ k) ∧ k ≠ g) (fun k => w2.heap.size ≤ k) rfl rfl (k31_mkF w3 _ ⟨x0, x1, x2, x3, x4⟩ hlv (G_F HV.out)) (fun k hk => ⟨⟨.inr (by omega), by omega⟩, fun he => by have := hown k he; omega⟩) (fun k hk => ⟨.inr (by omega), by omega⟩) HG3.out (by omega) ?_
  intro v1 w4 hG4 hg4 hat4 _
  have HF4 : Fr w2 w4 (fun k => some k = (Value.slice A st.l.length c).ownBlock) := HF3.then_grown hg4 (fun i hi => .inl hi.symm)
  have HG4 := Lib.hid hG4
  have HAt := Lib.hid hat4
  have HBl4 := Lib.hid (HF4.blk hgl HBl.out)
  obtain ⟨A1, cap1, rfl, _⟩ := G_slice hG4
  clear hat4 hg4
  refine hK.out _ _ (HS _ HF4) (fun hHeld => ?_)
  clear hK K
  refine norm_ (a' := ?_) ?_ ?_
  rotate_left
  · show Act.put _ (some 45) _ = _
    simp only [Act.put, List.setIfInBounds_toArray, List.set_cons_zero, List.set_cons_succ]
    rfl
  refine pure_ (i := 9) (N := some 46) (v := ?_) (a' := ?_) #[true, true, true, true, true, true, true, true, true, true, false, false] rfl rfl (by kernel_rfl) (fun _ _ _ h => h) (Or.inl ⟨by rfl, ?_⟩) ?_ ?_   -- nilCheck
  rotate_left
  · intro w'
    go_simp
    with_reducible rfl
  rotate_left
  · simp only [Act.put, List.setIfInBounds_toArray, List.set_cons_zero, List.set_cons_succ]
    rfl
  refine pure_ (i := 10) (N := some 47) (v := ?_) (a' := ?_) #[true, true, true, true, true, true, true, true, true, true, true, false] rfl rfl (by kernel_rfl) (fun _ _ _ h => h) (Or.inl ⟨by rfl, ?_⟩) ?_ ?_   -- fieldAddr
  rotate_left
  · intro w'
    go_simp
    with_reducible rfl
  rotate_left
  · simp only [Act.put, List.setIfInBounds_toArray, List.set_cons_zero, List.set_cons_succ]
    rfl
  refine last_ (i := 11) (N := none) #[true, true, true, true, true, true, true, true, true, true, true, true] rfl rfl (by kernel_rfl) (by decide) (fun K hK => ?_)   -- Go.Op.store 33 (Go.Operand.tmp 47) (Go.Operand.tmp 45)
  have c0 := blk_cell HBl4.out
  have f0 := blk_frozen HBl4.out
  refine skip_ (by rfl) rfl (by go_simp; rfl) ?_
  refine hK.out _ _ ?_
  clear hK K c0 f0
  refine done_ (by kernel_rfl) ?_
  have HX := Lib.hid HF4
  have HCf := Lib.hid (RV_fr (RV_bound HC.out) HF4 (fun k hk => hk.1.2.2))
  clear HF4 hG4 hHeld HS hb3' hb3 hv hgl hbl
  go_wp2
  go_ret
  refine ⟨rfl, .slice A1 (st.l ++ [(⟨x0, x1, x2, x3, x4⟩ : S31)]).length cap1, ⟨⟨cv, by simpa using blk_set HBl4.out 3 (.slice A1 (st.l ++ [(⟨x0, x1, x2, x3, x4⟩ : S31)]).length cap1), ?_⟩, ?_⟩, ?_, ?_⟩
  · refine RV_mono (RV_step HCf.out (fun k hk _ => Below.heap_setCell _ _ _ _ hk.1.2.1)) (fun k hk => ⟨.inl hk.1.1, hk.1.2.1, fun he => ?_⟩)
    rcases HAt.out with h | ⟨b, h, hb⟩
    · exact hk.1.2.2 (he.trans h)
    · have := hk.2
      have hkb : k = b := by rw [h] at he; injection he
      omega
  · exact G_set HG4.out (p := ⟨g, 3, none⟩) (fun h => h.2 rfl) _
  · exact (Fr.of_below HB2.out _).trans ((HX.out.mono (S1 := Mine g (.slice A st.l.length c)) (fun _ _ h => .inr h)).setCell (p := ⟨g, 3, none⟩) (.inl (.inl rfl)) _) (fun i hi => .inl hi)
  · rcases HAt.out with h | ⟨b, h, hb⟩
    · exact fun k hk => .inl (by rw [← h, hk])
    · exact fun k hk => .inr (by rw [h] at hk; injection hk with hk; omega)

set_option maxHeartbeats 1000000 in
theorem append_may {g : Nat} {w : World} {ok : Nat → Prop} {lv : Value} {st : LS} (h : IsL 70 g w ok lv st) (hok : LSok st) (x : S31) (cv : Value) {okx : Nat → Prop} (hr : RV (Kd.int .i64) w okx cv x.f4)
    (h1 : mayE x = false) :
    Calls Try.prog 9 #[.pointer (some ⟨g, 0, none⟩), entV x cv] w fun e w' => e = .returned (.int .i64 2) ∧ Below w.heap.size w w' := by
  have hcl := (confB_len hok.conf).1
  have H := Lib.hid h
  have HR := Lib.hid hr
  have hlen := hok.len
  obtain ⟨Ac, cc, rfl, hcl2, _⟩ := hr
  clear h
  generalize hlast : st.last = la at *
  obtain ⟨la, lt⟩ := la
  try dsimp only at h2
  try dsimp only at h3
  have HLa := Lib.hid hlast
  have HLok := Lib.hid hok
  clear hlast hok
  obtain ⟨x0, x1, x2, x3, x4⟩ := x
  dsimp only [entV] at *
  go_enter Try.func9, Try.ntmps9
  go_wp2_with fail
  have hk1 : (w.alloc (.cells #[.int .u64 x0, .int .u64 x1, .int .u8 x2, .string x3, .slice Ac x4.length cc] 31)).heap[w.heap.size]? = some (.cells #[.int .u64 x0, .int .u64 x1, .int .u8 x2, .string x3, .slice Ac x4.length cc] 31 (0, 0)) := blk_new w _
  have Hb0 := below_alloc (Below.refl _ w) (.cells #[.int .u64 x0, .int .u64 x1, .int .u8 x2, .string x3, .slice Ac x4.length cc] 31)
  refine (last_any (H.out.below Hb0) HLok.out.len).mono ?_
  rintro e w1 ⟨rfl, hb⟩
  have hk2 := blk_below hk1 hb
  have Hb1 := below_then Hb0 Hb0.size hb
  rw [HLa.out]
  have HK1 := Lib.hid hk2
  have HB1 := Lib.hid Hb1
  clear hk1 Hb0 hb hk2 Hb1
  go_wp2_with fail
  refine (made_any (H.out.below HB1.out) hcl).mono ?_
  rintro e w' ⟨rfl, rfl⟩
  have c1 := blk_cell HK1.out
  go_wp2_with fail
  refine (mayEntry_calls ⟨x0, x1, x2, x3, x4⟩ (RV_below HR.out HB1.out)).mono ?_
  rintro e w2 ⟨rfl, hb⟩
  have HK2 := Lib.hid (blk_below HK1.out hb)
  have HB2 := Lib.hid (below_then HB1.out HB1.out.size hb)
  rw [h1]
  clear hb c1 HK1
  have c1 := blk_cell HK2.out
  obtain ⟨⟨cv, hbl, hcv⟩, hll⟩ := H.out.below HB2.out
  obtain ⟨A, c, rfl, hlc⟩ := G_slice hll
  have c0 := blk_cell hbl
  clear hbl hcv hll
  go_wp2
  go_ret
  exact ⟨rfl, HB2.out⟩
set_option maxHeartbeats 1000000 in
theorem append_idx {g : Nat} {w : World} {ok : Nat → Prop} {lv : Value} {st : LS} (h : IsL 70 g w ok lv st) (hok : LSok st) (x : S31) (cv : Value) {okx : Nat → Prop} (hr : RV (Kd.int .i64) w okx cv x.f4)
    (h1 : mayE x = true) (h2 : (x.f0 != IntKind.u64.wrap (st.last.1 + 1)) = true) :
    Calls Try.prog 9 #[.pointer (some ⟨g, 0, none⟩), entV x cv] w fun e w' => e = .returned (.int .i64 261) ∧ Below w.heap.size w w' := by
  have hcl := (confB_len hok.conf).1
  have H := Lib.hid h
  have HR := Lib.hid hr
  have hlen := hok.len
  obtain ⟨Ac, cc, rfl, hcl2, _⟩ := hr
  clear h
  generalize hlast : st.last = la at *
  obtain ⟨la, lt⟩ := la
  try dsimp only at h2
  try dsimp only at h3
  have HLa := Lib.hid hlast
  have HLok := Lib.hid hok
  clear hlast hok
  obtain ⟨x0, x1, x2, x3, x4⟩ := x
  dsimp only [entV] at *
  go_enter Try.func9, Try.ntmps9
  go_wp2_with fail
  have hk1 : (w.alloc (.cells #[.int .u64 x0, .int .u64 x1, .int .u8 x2, .string x3, .slice Ac x4.length cc] 31)).heap[w.heap.size]? = some (.cells #[.int .u64 x0, .int .u64 x1, .int .u8 x2, .string x3, .slice Ac x4.length cc] 31 (0, 0)) := blk_new w _
  have Hb0 := below_alloc (Below.refl _ w) (.cells #[.int .u64 x0, .int .u64 x1, .int .u8 x2, .string x3, .slice Ac x4.length cc] 31)
  refine (last_any (H.out.below Hb0) HLok.out.len).mono ?_
  rintro e w1 ⟨rfl, hb⟩
  have hk2 := blk_below hk1 hb
  have Hb1 := below_then Hb0 Hb0.size hb
  rw [HLa.out]
  have HK1 := Lib.hid hk2
  have HB1 := Lib.hid Hb1
  clear hk1 Hb0 hb hk2 Hb1
  go_wp2_with fail
  refine (made_any (H.out.below HB1.out) hcl).mono ?_
  rintro e w' ⟨rfl, rfl⟩
  have c1 := blk_cell HK1.out
  go_wp2_with fail
  refine (mayEntry_calls ⟨x0, x1, x2, x3, x4⟩ (RV_below HR.out HB1.out)).mono ?_
  rintro e w2 ⟨rfl, hb⟩
  have HK2 := Lib.hid (blk_below HK1.out hb)
  have HB2 := Lib.hid (below_then HB1.out HB1.out.size hb)
  rw [h1]
  clear hb c1 HK1
  have c1 := blk_cell HK2.out
  obtain ⟨⟨cv, hbl, hcv⟩, hll⟩ := H.out.below HB2.out
  obtain ⟨A, c, rfl, hlc⟩ := G_slice hll
  have c0 := blk_cell hbl
  clear hbl hcv hll
  go_wp2
  go_ret
  exact ⟨rfl, HB2.out⟩
set_option maxHeartbeats 1000000 in
theorem append_term {g : Nat} {w : World} {ok : Nat → Prop} {lv : Value} {st : LS} (h : IsL 70 g w ok lv st) (hok : LSok st) (x : S31) (cv : Value) {okx : Nat → Prop} (hr : RV (Kd.int .i64) w okx cv x.f4)
    (h1 : mayE x = true) (h2 : (x.f0 != IntKind.u64.wrap (st.last.1 + 1)) = false) (h3 : x.f1 < st.last.2) :
    Calls Try.prog 9 #[.pointer (some ⟨g, 0, none⟩), entV x cv] w fun e w' => e = .returned (.int .i64 261) ∧ Below w.heap.size w w' := by
  have hcl := (confB_len hok.conf).1
  have H := Lib.hid h
  have HR := Lib.hid hr
  have hlen := hok.len
  obtain ⟨Ac, cc, rfl, hcl2, _⟩ := hr
  clear h
  generalize hlast : st.last = la at *
  obtain ⟨la, lt⟩ := la
  try dsimp only at h2
  try dsimp only at h3
  have HLa := Lib.hid hlast
  have HLok := Lib.hid hok
  clear hlast hok
  obtain ⟨x0, x1, x2, x3, x4⟩ := x
  dsimp only [entV] at *
  go_enter Try.func9, Try.ntmps9
  go_wp2_with fail
  have hk1 : (w.alloc (.cells #[.int .u64 x0, .int .u64 x1, .int .u8 x2, .string x3, .slice Ac x4.length cc] 31)).heap[w.heap.size]? = some (.cells #[.int .u64 x0, .int .u64 x1, .int .u8 x2, .string x3, .slice Ac x4.length cc] 31 (0, 0)) := blk_new w _
  have Hb0 := below_alloc (Below.refl _ w) (.cells #[.int .u64 x0, .int .u64 x1, .int .u8 x2, .string x3, .slice Ac x4.length cc] 31)
  refine (last_any (H.out.below Hb0) HLok.out.len).mono ?_
  rintro e w1 ⟨rfl, hb⟩
  have hk2 := blk_below hk1 hb
  have Hb1 := below_then Hb0 Hb0.size hb
  rw [HLa.out]
  have HK1 := Lib.hid hk2
  have HB1 := Lib.hid Hb1
  clear hk1 Hb0 hb hk2 Hb1
  go_wp2_with fail
  refine (made_any (H.out.below HB1.out) hcl).mono ?_
  rintro e w' ⟨rfl, rfl⟩
  have c1 := blk_cell HK1.out
  go_wp2_with fail
  refine (mayEntry_calls ⟨x0, x1, x2, x3, x4⟩ (RV_below HR.out HB1.out)).mono ?_
  rintro e w2 ⟨rfl, hb⟩
  have HK2 := Lib.hid (blk_below HK1.out hb)
  have HB2 := Lib.hid (below_then HB1.out HB1.out.size hb)
  rw [h1]
  clear hb c1 HK1
  have c1 := blk_cell HK2.out
  obtain ⟨⟨cv, hbl, hcv⟩, hll⟩ := H.out.below HB2.out
  obtain ⟨A, c, rfl, hlc⟩ := G_slice hll
  have c0 := blk_cell hbl
  clear hbl hcv hll
  go_wp2
  go_ret
  exact ⟨rfl, HB2.out⟩
set_option maxHeartbeats 1000000 in
theorem append_full {g : Nat} {w : World} {ok : Nat → Prop} {lv : Value} {st : LS} (h : IsL 70 g w ok lv st) (hok : LSok st) (x : S31) (cv : Value) {okx : Nat → Prop} (hr : RV (Kd.int .i64) w okx cv x.f4)
    (h1 : mayE x = true) (h2 : (x.f0 != IntKind.u64.wrap (st.last.1 + 1)) = false) (h3 : ¬ x.f1 < st.last.2) (h4 : 4096 ≤ st.l.length) :
    Calls Try.prog 9 #[.pointer (some ⟨g, 0, none⟩), entV x cv] w fun e w' => e = .returned (.int .i64 6) ∧ Below w.heap.size w w' := by
  have hcl := (confB_len hok.conf).1
  have H := Lib.hid h
  have HR := Lib.hid hr
  have hlen := hok.len
  obtain ⟨Ac, cc, rfl, hcl2, _⟩ := hr
  clear h
  generalize hlast : st.last = la at *
  obtain ⟨la, lt⟩ := la
  try dsimp only at h2
  try dsimp only at h3
  have HLa := Lib.hid hlast
  have HLok := Lib.hid hok
  clear hlast hok
  obtain ⟨x0, x1, x2, x3, x4⟩ := x
  dsimp only [entV] at *
  go_enter Try.func9, Try.ntmps9
  go_wp2_with fail
  have hk1 : (w.alloc (.cells #[.int .u64 x0, .int .u64 x1, .int .u8 x2, .string x3, .slice Ac x4.length cc] 31)).heap[w.heap.size]? = some (.cells #[.int .u64 x0, .int .u64 x1, .int .u8 x2, .string x3, .slice Ac x4.length cc] 31 (0, 0)) := blk_new w _
  have Hb0 := below_alloc (Below.refl _ w) (.cells #[.int .u64 x0, .int .u64 x1, .int .u8 x2, .string x3, .slice Ac x4.length cc] 31)
  refine (last_any (H.out.below Hb0) HLok.out.len).mono ?_
  rintro e w1 ⟨rfl, hb⟩
  have hk2 := blk_below hk1 hb
  have Hb1 := below_then Hb0 Hb0.size hb
  rw [HLa.out]
  have HK1 := Lib.hid hk2
  have HB1 := Lib.hid Hb1
  clear hk1 Hb0 hb hk2 Hb1
  go_wp2_with fail
  refine (made_any (H.out.below HB1.out) hcl).mono ?_
  rintro e w' ⟨rfl, rfl⟩
  have c1 := blk_cell HK1.out
  go_wp2_with fail
  refine (mayEntry_calls ⟨x0, x1, x2, x3, x4⟩ (RV_below HR.out HB1.out)).mono ?_
  rintro e w2 ⟨rfl, hb⟩
  have HK2 := Lib.hid (blk_below HK1.out hb)
  have HB2 := Lib.hid (below_then HB1.out HB1.out.size hb)
  rw [h1]
  clear hb c1 HK1
  have c1 := blk_cell HK2.out
  obtain ⟨⟨cv, hbl, hcv⟩, hll⟩ := H.out.below HB2.out
  obtain ⟨A, c, rfl, hlc⟩ := G_slice hll
  have c0 := blk_cell hbl
  clear hbl hcv hll
  have h4' : 4096 ≤ (st.l.length : Int) := by omega
  go_wp2
  go_ret
  exact ⟨rfl, HB2.out⟩
set_option maxHeartbeats 400000 in
theorem append_nil (x : S31) (cv : Value) (w : World) : Calls Try.prog 9 #[.pointer none, entV x cv] w fun e w' => e = .returned (.int .i64 1) ∧ Below w.heap.size w w' := by
  obtain ⟨x0, x1, x2, x3, x4⟩ := x
  dsimp only [entV] at *
  go_enter Try.func9, Try.ntmps9
  go_wp2_with fail
  refine (last_nil _).mono ?_
  rintro e w1 ⟨rfl, hb⟩
  have HB := Lib.hid (below_then (below_alloc (Below.refl _ w) _) (below_alloc (Below.refl _ w) _).size hb)
  clear hb
  go_wp2_with fail
  refine (made_nil _).mono ?_
  rintro e w' ⟨rfl, rfl⟩
  go_wp2
  go_ret
  exact ⟨rfl, HB.out⟩

theorem IsL.left {T g : Nat} {w w' : World} {ok : Nat → Prop} {lv : Value} {st : LS} (h : IsL T g w ok lv st) (hb : Below w.heap.size w w') : Left T g w ok lv st w' :=
  ⟨lv, (h.below hb).mono (fun _ hk => .inl hk), Fr.of_below hb _, fun _ hk => .inl hk.symm⟩

theorem append_any {g : Nat} {w : World} {ok : Nat → Prop} {lv : Value} {st : LS} (h : IsL 70 g w ok lv st) (hok : LSok st) (x : S31) (cv : Value) {okx : Nat → Prop} (hr : RV (Kd.int .i64) w okx cv x.f4) :
    Calls Try.prog 9 #[.pointer (some ⟨g, 0, none⟩), entV x cv] w fun e w' => e = .returned (.int .i64 (st.append x).2) ∧ Left 70 g w ok lv (st.append x).1 w' := by
  unfold LS.append
  cases h1 : mayE x with
  | false => rw [if_pos rfl]; exact (append_may h hok x cv hr h1).mono fun e w' ⟨a, b⟩ => ⟨a, h.left b⟩
  | true =>
    rw [if_neg (by simp)]
    by_cases h2 : x.f0 = IntKind.u64.wrap (st.last.1 + 1)
    · by_cases h3 : x.f1 < st.last.2
      · rw [if_pos (.inr h3)]; exact (append_term h hok x cv hr h1 (by simpa using h2) h3).mono fun e w' ⟨a, b⟩ => ⟨a, h.left b⟩
      · rw [if_neg (by rintro (h | h); exact h h2; exact h3 h)]
        by_cases h4 : 4096 ≤ st.l.length
        · rw [if_pos h4]; exact (append_full h hok x cv hr h1 (by simpa using h2) h3 h4).mono fun e w' ⟨a, b⟩ => ⟨a, h.left b⟩
        · rw [if_neg h4]; exact append_ok h hok x cv hr h1 h2 h3 (by omega)
    · rw [if_pos (.inl h2)]; exact (append_idx h hok x cv hr h1 (by simpa using h2)).mono fun e w' ⟨a, b⟩ => ⟨a, h.left b⟩
end Go.Proofs.Ytpnmodkddiljeaa
