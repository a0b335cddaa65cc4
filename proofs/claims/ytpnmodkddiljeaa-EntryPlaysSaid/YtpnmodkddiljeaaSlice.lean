/- Slice. Conditions: the log is in order. -/
import Derived.Test.YtpnmodkddiljeaaNew
namespace Go.Proofs.Ytpnmodkddiljeaa
open Go.RowKit Go.Proofs.YtpnmodkddiljeaaW.PrintWords Go.Proofs.YtpnmodkddiljeaaW.PrintLast PEntryPlays Go.Shelf

def LS.slice (st : LS) (i most : Int) : List S31 × Int :=
  if most < 1 ∨ 4096 < most then ([], 2) else if i ≤ st.index then ([], 260) else ((st.l.drop (i - st.index - 1).toNat).take most.toNat, 0)

set_option maxHeartbeats 400000 in
theorem slice_nil (i most : Int) (w : World) : Calls Try.prog 19 #[.pointer none, .int .u64 i, .int .i64 most] w fun e w' => e = .returned (.tuple #[.slice none 0 0, .int .i64 1]) ∧ Below w.heap.size w w' := by
  go_enter Try.func19, Try.ntmps19
  go_wp2_with fail
  refine (made_nil _).mono ?_
  rintro e w' ⟨rfl, rfl⟩
  go_wp2
  go_ret2
  exact ⟨rfl, Below.refl _ _⟩

set_option maxHeartbeats 1000000 in
theorem slice_bad {g : Nat} {w : World} {ok : Nat → Prop} {lv : Value} {st : LS} (h : IsL 70 g w ok lv st) (hok : LSok st) (i most : Int) (hm : most < 1 ∨ 4096 < most) :
    Calls Try.prog 19 #[.pointer (some ⟨g, 0, none⟩), .int .u64 i, .int .i64 most] w fun e w' => e = .returned (.tuple #[.slice none 0 0, .int .i64 2]) ∧ Below w.heap.size w w' := by
  have hcl := (confB_len hok.conf).1
  have H := Lib.hid h
  clear h hok
  by_cases h1 : most < 1
  · clear hm
    go_enter Try.func19, Try.ntmps19
    go_wp2_with fail
    refine (made_any H.out hcl).mono ?_
    rintro e w' ⟨rfl, rfl⟩
    go_wp2
    go_ret2
    exact ⟨rfl, Below.refl _ _⟩
  · have h2 : 4096 < most := by omega
    clear hm
    go_enter Try.func19, Try.ntmps19
    go_wp2_with fail
    refine (made_any H.out hcl).mono ?_
    rintro e w' ⟨rfl, rfl⟩
    go_wp2
    go_ret2
    exact ⟨rfl, Below.refl _ _⟩

set_option maxHeartbeats 1000000 in
theorem slice_gone {g : Nat} {w : World} {ok : Nat → Prop} {lv : Value} {st : LS} (h : IsL 70 g w ok lv st) (hok : LSok st) (i most : Int) (hm1 : ¬ most < 1) (hm2 : ¬ 4096 < most) (hi : i ≤ st.index) :
    Calls Try.prog 19 #[.pointer (some ⟨g, 0, none⟩), .int .u64 i, .int .i64 most] w fun e w' => e = .returned (.tuple #[.slice none 0 0, .int .i64 260]) ∧ Below w.heap.size w w' := by
  have hcl := (confB_len hok.conf).1
  have H := Lib.hid h
  clear h hok
  go_enter Try.func19, Try.ntmps19
  go_wp2_with fail
  refine (made_any H.out hcl).mono ?_
  rintro e w' ⟨rfl, rfl⟩
  obtain ⟨⟨cv, hb1, _⟩, _⟩ := H.out
  have c0 := blk_cell hb1
  clear hb1
  go_wp2
  go_ret2
  exact ⟨rfl, Below.refl _ _⟩

set_option maxHeartbeats 1000000 in
theorem slice_past {g : Nat} {w : World} {ok : Nat → Prop} {lv : Value} {st : LS} (h : IsL 70 g w ok lv st) (hok : LSok st) (i most : Int) (hi64 : i ≤ 18446744073709551615) (hm1 : ¬ most < 1) (hm2 : ¬ 4096 < most) (hi : ¬ i ≤ st.index) (hp : st.l.length ≤ i - st.index - 1) :
    Calls Try.prog 19 #[.pointer (some ⟨g, 0, none⟩), .int .u64 i, .int .i64 most] w fun e w' => e = .returned (.tuple #[.slice none 0 0, .int .i64 0]) ∧ Below w.heap.size w w' := by
  have hcl := (confB_len hok.conf).1
  have hlen := hok.len
  have hi0 := hok.i0
  have q0 : IntKind.u64.wrap (i - st.index) = i - st.index := IntWalk.u64_in _ (by omega)
  have q1 : IntKind.u64.wrap (i - st.index - 1) = i - st.index - 1 := IntWalk.u64_in _ (by omega)
  have q2 : IntKind.u64.wrap (st.l.length : Int) = st.l.length := IntWalk.u64_in _ (by omega)
  have H := Lib.hid h
  clear h hok
  go_enter Try.func19, Try.ntmps19
  go_wp2_with fail
  refine (made_any H.out hcl).mono ?_
  rintro e w' ⟨rfl, rfl⟩
  obtain ⟨⟨cv, hb1, _⟩, hl1⟩ := H.out
  obtain ⟨A, c, rfl, _⟩ := G_slice hl1
  have c0 := blk_cell hb1
  clear hb1 hl1
  go_wp2
  go_ret2
  exact ⟨rfl, Below.refl _ _⟩

theorem add_off (b off n : Nat) : (⟨b, off, none⟩ : Addr).add (n * k31.sz) = ⟨b, off + n * 5, none⟩ := by
  show Addr.add _ (n * 5) = _
  unfold Addr.add
  split
  · rename_i h; rw [h]; rfl
  · rfl

set_option maxHeartbeats 1000000 in
set_option maxRecDepth 100000 in
theorem slice_ok {g : Nat} {w : World} {ok : Nat → Prop} {lv : Value} {st : LS} (h : IsL 70 g w ok lv st) (hok : LSok st) (i most : Int) (hm1 : ¬ most < 1) (hm2 : ¬ 4096 < most) (n m : Nat) (hn : i - st.index - 1 = n) (hnl : n < st.l.length) (hm : m = min most.toNat (st.l.length - n)) :
    Calls Try.prog 19 #[.pointer (some ⟨g, 0, none⟩), .int .u64 i, .int .i64 most] w fun e w' => ∃ v, e = .returned (.tuple #[v, .int .i64 0]) ∧ G k31 31 w' (fun k => w.heap.size ≤ k) v ((st.l.drop n).take m) ∧ Below w.heap.size w w' := by
  obtain ⟨seg, hsg⟩ : ∃ seg, (st.l.drop n).take m = seg := ⟨_, rfl⟩
  rw [hsg]
  have hcl := (confB_len hok.conf).1
  have hlen := hok.len
  have hi0 := hok.i0
  have hi1 := hok.i1
  have hi : ¬ i ≤ st.index := by omega
  have q0 : IntKind.u64.wrap (i - st.index) = i - st.index := IntWalk.u64_in _ (by omega)
  have q1 : IntKind.u64.wrap (i - st.index - 1) = n := (IntWalk.u64_in _ (by omega)).trans hn
  have q2 : IntKind.u64.wrap (st.l.length : Int) = st.l.length := IntWalk.u64_in _ (by omega)
  have q3 : IntKind.u64.wrap most = most := IntWalk.u64_in _ (by omega)
  have q4 : IntKind.u64.wrap ((n : Int) + most) = n + most := IntWalk.u64_in _ (by omega)
  have q5 : (n : Int) < st.l.length := by omega
  have hmay := hok.may
  have H := Lib.hid h
  have HM := Lib.hid hmay
  clear h hok hmay
  go_enter Try.func19, Try.ntmps19
  go_wp2_with fail
  refine (made_any H.out hcl).mono ?_
  rintro e w' ⟨rfl, rfl⟩
  obtain ⟨⟨cv, hb1, _⟩, hl1⟩ := H.out
  obtain ⟨A, c, rfl, hlc⟩ := G_slice hl1
  obtain ⟨b, off, _, _, rfl, _⟩ := G_ent hl1 n hnl
  have c0 := blk_cell hb1
  have d3 := c0 3
  simp only [List.getElem?_toArray, List.getElem?_cons_succ, List.getElem?_cons_zero] at d3
  have HL := Lib.hid hl1
  clear hb1 hl1
  go_wp2_with fail
  obtain ⟨e, he⟩ : ∃ e : Nat, e = n + m := ⟨_, rfl⟩
  have z1 : (if (st.l.length : Int) < (n : Int) + most then (st.l.length : Int) else (n : Int) + most) = (e : Int) := by split <;> omega
  have z2 : (0 : Int) ≤ (e : Int) := by omega
  have z3 : (e : Int) ≤ (c : Int) := by omega
  have z4 : n ≤ e := by omega
  have z5 : ¬ c = n := by omega
  have HE := Lib.hid he
  clear he
  have HS : ∀ w', Fr w w' (fun _ => False) → (fun w' => w'.cell? ⟨g, 3, none⟩ = some (.slice (some ⟨b, off, none⟩) st.l.length c)) w' := fun w' hf => hf.cell (fun h => h) d3
  refine start_ (n := 19) (S := (fun w' => w'.cell? ⟨g, 3, none⟩ = some (.slice (some ⟨b, off, none⟩) st.l.length c))) (ds := []) #[false, false, false, false, false, false, false, false, false, false, false, false, false, false, false, false, false, false, false] (by kernel_rfl) rfl rfl (by exact HS _ (Fr.refl w _).drew) (fun hHeld => ?_)
  refine pure_ (i := 0) (N := some 43) (v := ?_) (a' := ?_) #[true, false, false, false, false, false, false, false, false, false, false, false, false, false, false, false, false, false, false] rfl rfl (by kernel_rfl) (fun _ _ _ h => h) (Or.inl ⟨by rfl, ?_⟩) ?_ ?_   -- move
  rotate_left
  · intro w'
    go_simp
    with_reducible rfl
  rotate_left
  · simp only [Act.put, List.setIfInBounds_toArray, List.set_cons_zero, List.set_cons_succ]
    rfl
  refine pure_ (i := 1) (N := some 44) (v := ?_) (a' := ?_) #[true, true, false, false, false, false, false, false, false, false, false, false, false, false, false, false, false, false, false] rfl rfl (by kernel_rfl) (fun _ _ _ h => h) (Or.inl ⟨by rfl, ?_⟩) ?_ ?_   -- nilCheck
  rotate_left
  · intro w'
    go_simp
    with_reducible rfl
  rotate_left
  · simp only [Act.put, List.setIfInBounds_toArray, List.set_cons_zero, List.set_cons_succ]
    rfl
  refine pure_ (i := 2) (N := some 45) (v := ?_) (a' := ?_) #[true, true, true, false, false, false, false, false, false, false, false, false, false, false, false, false, false, false, false] rfl rfl (by kernel_rfl) (fun _ _ _ h => h) (Or.inl ⟨by rfl, ?_⟩) ?_ ?_   -- fieldAddr
  rotate_left
  · intro w'
    go_simp
    with_reducible rfl
  rotate_left
  · simp only [Act.put, List.setIfInBounds_toArray, List.set_cons_zero, List.set_cons_succ]
    rfl
  refine pure_ (i := 4) (N := some 47) (v := ?_) (a' := ?_) #[true, true, true, false, true, false, false, false, false, false, false, false, false, false, false, false, false, false, false] rfl rfl (by kernel_rfl) (fun _ _ _ h => h) (Or.inl ⟨by rfl, ?_⟩) ?_ ?_   -- move
  rotate_left
  · intro w'
    go_simp
    with_reducible rfl
  rotate_left
  · simp only [Act.put, List.setIfInBounds_toArray, List.set_cons_zero, List.set_cons_succ]
    rfl
  refine pure_ (i := 5) (N := some 48) (v := ?_) (a' := ?_) #[true, true, true, false, true, true, false, false, false, false, false, false, false, false, false, false, false, false, false] rfl rfl (by kernel_rfl) (fun _ _ _ h => h) (Or.inl ⟨by rfl, ?_⟩) ?_ ?_   -- move
  rotate_left
  · intro w'
    go_simp
    with_reducible rfl
  rotate_left
  · simp only [Act.put, List.setIfInBounds_toArray, List.set_cons_zero, List.set_cons_succ]
    rfl
  refine pure_ (i := 6) (N := some 49) (v := ?_) (a' := ?_) #[true, true, true, false, true, true, true, false, false, false, false, false, false, false, false, false, false, false, false] rfl rfl (by kernel_rfl) (fun _ _ _ h => h) (Or.inl ⟨by rfl, ?_⟩) ?_ ?_   -- move
  rotate_left
  · intro w'
    go_simp
    with_reducible rfl
  rotate_left
  · simp only [Act.put, List.setIfInBounds_toArray, List.set_cons_zero, List.set_cons_succ]
    rfl
  refine pure_ (i := 7) (N := some 50) (v := ?_) (a' := ?_) #[true, true, true, false, true, true, true, true, false, false, false, false, false, false, false, false, false, false, false] rfl rfl (by kernel_rfl) (fun _ _ _ h => h) (Or.inl ⟨by rfl, ?_⟩) ?_ ?_   -- convert
  rotate_left
  · intro w'
    go_simp
    with_reducible rfl
  rotate_left
  · simp only [Act.put, List.setIfInBounds_toArray, List.set_cons_zero, List.set_cons_succ]
    rfl
  refine pure_ (i := 8) (N := some 51) (v := ?_) (a' := ?_) #[true, true, true, false, true, true, true, true, true, false, false, false, false, false, false, false, false, false, false] rfl rfl (by kernel_rfl) (fun _ _ _ h => h) (Or.inl ⟨by rfl, ?_⟩) ?_ ?_   -- binOp
  rotate_left
  · intro w'
    go_simp
    with_reducible rfl
  rotate_left
  · simp only [Act.put, List.setIfInBounds_toArray, List.set_cons_zero, List.set_cons_succ]
    rfl
  refine pure_ (i := 9) (N := some 52) (v := ?_) (a' := ?_) #[true, true, true, false, true, true, true, true, true, true, false, false, false, false, false, false, false, false, false] rfl rfl (by kernel_rfl) (fun _ _ _ h => h) (Or.inl ⟨by rfl, ?_⟩) ?_ ?_   -- move
  rotate_left
  · intro w'
    go_simp
    with_reducible rfl
  rotate_left
  · simp only [Act.put, List.setIfInBounds_toArray, List.set_cons_zero, List.set_cons_succ]
    rfl
  refine pure_ (i := 10) (N := some 53) (v := ?_) (a' := ?_) #[true, true, true, false, true, true, true, true, true, true, true, false, false, false, false, false, false, false, false] rfl rfl (by kernel_rfl) (fun _ _ _ h => h) (Or.inl ⟨by rfl, ?_⟩) ?_ ?_   -- nilCheck
  rotate_left
  · intro w'
    go_simp
    with_reducible rfl
  rotate_left
  · simp only [Act.put, List.setIfInBounds_toArray, List.set_cons_zero, List.set_cons_succ]
    rfl
  refine pure_ (i := 11) (N := some 54) (v := ?_) (a' := ?_) #[true, true, true, false, true, true, true, true, true, true, true, true, false, false, false, false, false, false, false] rfl rfl (by kernel_rfl) (fun _ _ _ h => h) (Or.inl ⟨by rfl, ?_⟩) ?_ ?_   -- fieldAddr
  rotate_left
  · intro w'
    go_simp
    with_reducible rfl
  rotate_left
  · simp only [Act.put, List.setIfInBounds_toArray, List.set_cons_zero, List.set_cons_succ]
    rfl
  refine pure_ (i := 18) (N := some 61) (v := ?_) (a' := ?_) #[true, true, true, false, true, true, true, true, true, true, true, true, false, false, false, false, false, false, true] rfl rfl (by kernel_rfl) (fun _ _ _ h => h) (Or.inl ⟨by rfl, ?_⟩) ?_ ?_   -- move
  rotate_left
  · intro w'
    go_simp
    with_reducible rfl
  rotate_left
  · simp only [Act.put, List.setIfInBounds_toArray, List.set_cons_zero, List.set_cons_succ]
    rfl
  refine take_ (i := 3) (N := some 46) (v := ?_) (a' := ?_) #[true, true, true, true, true, true, true, true, true, true, true, true, false, false, false, false, false, false, true] rfl rfl (by kernel_rfl) (fun _ _ _ h => h) (Or.inl ⟨by rfl, ?_⟩) hHeld ?_ ?_   -- Go.Op.load 33 (Go.Operand.tmp 45)
  rotate_left
  · rintro w' s0
    go_simp
    with_reducible rfl
  rotate_left
  · simp only [Act.put, List.setIfInBounds_toArray, List.set_cons_zero, List.set_cons_succ]
    rfl
  refine take_ (i := 12) (N := some 55) (v := ?_) (a' := ?_) #[true, true, true, true, true, true, true, true, true, true, true, true, true, false, false, false, false, false, true] rfl rfl (by kernel_rfl) (fun _ _ _ h => h) (Or.inl ⟨by rfl, ?_⟩) hHeld ?_ ?_   -- Go.Op.load 33 (Go.Operand.tmp 54)
  rotate_left
  · rintro w' s0
    go_simp
    with_reducible rfl
  rotate_left
  · simp only [Act.put, List.setIfInBounds_toArray, List.set_cons_zero, List.set_cons_succ]
    rfl
  refine pure_ (i := 13) (N := some 56) (v := ?_) (a' := ?_) #[true, true, true, true, true, true, true, true, true, true, true, true, true, true, false, false, false, false, true] rfl rfl (by kernel_rfl) (fun _ _ _ h => h) (Or.inl ⟨by rfl, ?_⟩) ?_ ?_   -- call
  rotate_left
  · intro w'
    go_simp
    with_reducible rfl
  rotate_left
  · simp only [Act.put, List.setIfInBounds_toArray, List.set_cons_zero, List.set_cons_succ]
    rfl
  refine pure_ (i := 14) (N := some 57) (v := ?_) (a' := ?_) #[true, true, true, true, true, true, true, true, true, true, true, true, true, true, true, false, false, false, true] rfl rfl (by kernel_rfl) (fun _ _ _ h => h) (Or.inl ⟨by rfl, ?_⟩) ?_ ?_   -- convert
  rotate_left
  · intro w'
    go_simp
    with_reducible rfl
  rotate_left
  · simp only [Act.put, List.setIfInBounds_toArray, List.set_cons_zero, List.set_cons_succ]
    rfl
  refine pure_ (i := 15) (N := some 58) (v := ?_) (a' := ?_) #[true, true, true, true, true, true, true, true, true, true, true, true, true, true, true, true, false, false, true] rfl rfl (by kernel_rfl) (fun _ _ _ h => h) (Or.inl ⟨by rfl, ?_⟩) ?_ ?_   -- call
  rotate_left
  · intro w'
    go_simp
    with_reducible rfl
  rotate_left
  · simp only [Act.put, List.setIfInBounds_toArray, List.set_cons_zero, List.set_cons_succ]
    rfl
  refine pure_ (i := 16) (N := some 59) (v := ?_) (a' := ?_) #[true, true, true, true, true, true, true, true, true, true, true, true, true, true, true, true, true, false, true] rfl rfl (by kernel_rfl) (fun _ _ _ h => h) (Or.inl ⟨by rfl, ?_⟩) ?_ ?_   -- slice
  rotate_left
  · intro w'
    go_simp
    with_reducible rfl
  rotate_left
  · simp only [Act.put, List.setIfInBounds_toArray, List.set_cons_zero, List.set_cons_succ]
    rfl
  refine pure_ (i := 17) (N := some 60) (v := ?_) (a' := ?_) #[true, true, true, true, true, true, true, true, true, true, true, true, true, true, true, true, true, true, true] rfl rfl (by kernel_rfl) (fun _ _ _ h => h) (Or.inl ⟨by rfl, ?_⟩) ?_ ?_   -- call
  rotate_left
  · intro w'
    go_simp
    with_reducible rfl
  rotate_left
  · simp only [Act.put, List.setIfInBounds_toArray, List.set_cons_zero, List.set_cons_succ]
    rfl
  refine done_ (by kernel_rfl) ?_
  clear HS hHeld z1 z2 z3 d3 q0 q1 q2 q3 q4 c0
  have he := HE.out
  have hem : e - n = m := by omega
  have hseg := G_drop (G_take (G_drew HL.out) (m := e) (k := c) (by omega) (by omega) (Nat.le_refl _)) (m := n) z4
  rw [if_neg z5, hem, show (st.l.take e).drop n = (st.l.drop n).take m by rw [he, List.drop_take, Nat.add_sub_cancel_left], hsg] at hseg
  rw [Option.map_some, add_off] at hseg
  have HSeg := Lib.hid hseg
  have hsl : seg.length = m := by rw [← hsg, List.length_take, List.length_drop]; omega
  have HMy := Lib.hid (show ∀ e, e ∈ seg → mayE e = true from fun e h => HM.out e (List.mem_of_mem_drop (List.mem_of_mem_take (hsg ▸ h))))
  have hmm : m ≤ 4096 := by omega
  rw [hem]
  clear hsg hseg hem he HE z4 z5 hn hm hm1 hm2 hi q5
  have hwd : w.drew.heap.size = w.heap.size := rfl
  have HBd := Lib.hid (below_drew (Below.refl w.heap.size w))
  generalize w.drew = wd at *
  go_wp2_with fail
  go_loopw [8, 61] (fun v i wr => ∃ k : Nat, k ≤ m ∧ i = .int .i64 k ∧ G k31 31 wr (fun b => w.heap.size ≤ b) v (seg.take k) ∧ Below w.heap.size w wr ∧ Below wd.heap.size wd wr)
    (fun _ i _ => m - (intOf i).toNat)
  case atStart => exact ⟨0, Nat.zero_le _, rfl, G_nil _ _ _ _, HBd.out, Below.refl _ _⟩
  case round =>
    obtain ⟨k, hk, rfl, hv, hB, hBd⟩ := hrel
    have HV := Lib.hid hv
    have HB := Lib.hid hB
    have HBw := Lib.hid hBd
    have hlk : (seg.take k).length = k := by rw [List.length_take]; omega
    obtain ⟨Av, cv, hve, _⟩ := G_slice hv
    rw [hlk] at hve
    subst hve
    clear hv hB hBd
    by_cases hlt : k < m
    · have q1 : IntKind.i64.wrap ((k : Int) + 1) = (k + 1 : Nat) := IntWalk.i64_in _ (by omega)
      obtain ⟨b', off', A4, c4, hA, hokb, e0, e1, e2, e3, e4, hl4, hF4⟩ := G_ent (G_below HSeg.out HBw.out) k (by omega)
      injection hA with hA
      injection hA with hb' ho' _
      subst hb' ho'
      have hx7 := mayE_conf (HMy.out seg[k] (List.getElem_mem _))
      have htk : seg.take (k + 1) = seg.take k ++ [seg[k]] := by rw [List.take_succ_eq_append_getElem (by omega)]
      generalize seg[k] = x at *
      have HF4 := Lib.hid hF4
      have hwr := HB.out.size
      clear hF4
      go_wp2_with fail
      refine (own_any x A4 c4 _ (Kd.F_now (Kd.F_alloc HF4.out _)) (by omega)).mono ?_
      rintro e w3 ⟨v3, rfl, hv3, hb3⟩
      have HB3 := Lib.hid (below_then (below_alloc (Below.refl _ wr) _) (below_alloc (Below.refl _ wr) _).size hb3)
      have HV3 := Lib.hid (G_mono hv3 (ok' := fun b => wr.heap.size ≤ b) (fun k hk => by simp at hk; omega))
      obtain ⟨Av3, cv3, rfl, hl3⟩ := G_slice hv3
      clear hv3 hb3 e0 e1 e2 e3 e4
      have hvlt := G_lt HV.out
      have hl64 : ((seg.take k).length + 1) * 64 ≤ 140737488355328 := by rw [List.length_take]; omega
      go_wp2_with (at_builtin; refine G_append k31 rfl (.tmp 65) (.tmp 68) 33 31 _ 64 rfl Try.underlying33 ent_info rfl (by decide) (.slice Av k cv) (seg.take k) x _ (fun b => w.heap.size ≤ b) (fun b => wr.heap.size ≤ b) rfl rfl (k31_mkF w3 _ x hl3 (G_F HV3.out)) (fun b hb => ⟨by omega, fun he => by have := hvlt b he.symm; omega⟩) (fun b hb => by have := HB3.out.size; omega) (G_below HV.out HB3.out) hl64 ?_; intro v4 w4 hG4 hg4 hat4 _)
      have hown := HV.out.1
      have step : ∀ {u : World}, u.heap.size = w.heap.size → Below u.heap.size u wr → Below u.heap.size u w4 := fun {u} hu hb =>
        (((Fr.of_below hb (fun _ => False)).then_below HB3.out).then_grown hg4 (fun i hi => .inr (by have := hown i hi; omega))).below (fun _ h => h.elim)
      exact ⟨⟨k + 1, by omega, by simp, htk ▸ hG4, step rfl HB.out, step hwd HBw.out⟩, by simp [intOf]; omega⟩
    · obtain rfl : k = m := by omega
      go_wp2
      go_ret2
      refine ⟨_, rfl, ?_, HB.out⟩
      exact (show seg.take k = seg by rw [← hsl]; exact List.take_length) ▸ HV.out

theorem slice_any {g : Nat} {w : World} {ok : Nat → Prop} {lv : Value} {st : LS} (h : IsL 70 g w ok lv st) (hok : LSok st) (i most : Int) (hi64 : i ≤ 18446744073709551615) :
    Calls Try.prog 19 #[.pointer (some ⟨g, 0, none⟩), .int .u64 i, .int .i64 most] w fun e w' => ∃ v, e = .returned (.tuple #[v, .int .i64 (st.slice i most).2]) ∧ G k31 31 w' (fun k => w.heap.size ≤ k) v (st.slice i most).1 ∧ Below w.heap.size w w' := by
  unfold LS.slice
  by_cases h1 : most < 1 ∨ 4096 < most
  · rw [if_pos h1]
    exact (slice_bad h hok i most h1).mono fun e w' ⟨a, b⟩ => ⟨_, a, G_nil _ _ _ _, b⟩
  rw [if_neg h1]
  by_cases h2 : i ≤ st.index
  · rw [if_pos h2]
    exact (slice_gone h hok i most (fun h => h1 (.inl h)) (fun h => h1 (.inr h)) h2).mono fun e w' ⟨a, b⟩ => ⟨_, a, G_nil _ _ _ _, b⟩
  rw [if_neg h2]
  obtain ⟨n, hn⟩ : ∃ n : Nat, i - st.index - 1 = n := ⟨(i - st.index - 1).toNat, by omega⟩
  rw [hn, Int.toNat_natCast]
  by_cases h3 : n < st.l.length
  · have he : (st.l.drop n).take most.toNat = (st.l.drop n).take (min most.toNat (st.l.length - n)) := by rw [← List.length_drop, List.take_eq_take_min]
    simp only [he]
    exact slice_ok h hok i most (fun h => h1 (.inl h)) (fun h => h1 (.inr h)) n _ hn h3 rfl
  · have he : (st.l.drop n).take most.toNat = [] := by rw [List.drop_eq_nil_of_le (by omega), List.take_nil]
    simp only [he]
    exact (slice_past h hok i most hi64 (fun h => h1 (.inl h)) (fun h => h1 (.inr h)) h2 (by omega)).mono fun e w' ⟨a, b⟩ => ⟨_, a, G_nil _ _ _ _, b⟩
end Go.Proofs.Ytpnmodkddiljeaa
