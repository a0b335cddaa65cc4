/- says: the conf at an index. Conditions: the log is in order. -/
import Derived.Test.YtpnmodkddiljeaaRound
namespace Go.Proofs.Ytpnmodkddiljeaa
open Go.RowKit Go.Proofs.YtpnmodkddiljeaaW.PrintWords Go.Proofs.YtpnmodkddiljeaaW.PrintLast PEntryPlays Go.Shelf
attribute [local go_sem] Oper.semAt_some

/-- The entries up to an index, the last one first. -/
def LS.back (st : LS) (i : Int) : List S31 := (bk (fun j => st.l.getD j z31) st.l.length st.l.length).filter (fun e => decide (e.f0 ≤ i))
def LS.says (st : LS) (i : Int) : List Int × Int := match (st.back i).find? (fun e => decide (e.f2 = 3)) with
  | some e => (e.f4, e.f0)
  | none => (st.conf, st.index)

theorem back_items (w : World) (A : Option Addr) (st : LS) (i : Int) : ((bk (itemAt w A st.l) st.l.length st.l.length).filter (upTo i)).map (fun p => p.2.1) = st.back i := by
  unfold LS.back bk
  rw [List.filter_map, List.filter_map, List.map_map]
  rfl

/-- What an item's row is: the entry's conf, and the value that stands for it. -/
theorem item_ok {w : World} {ok : Nat → Prop} {A : Option Addr} {c : Nat} {xs : List S31} (hG : G k31 31 w ok (.slice A xs.length c) xs) (i : Int) :
    ∀ x, x ∈ (bk (itemAt w A xs) xs.length xs.length).filter (upTo i) → RV (Kd.int .i64) w ok x.2.2 x.2.1.f4 ∧ x.2.1 ∈ xs := fun x hx => by
  obtain ⟨hx, _⟩ := List.mem_filter.1 hx
  obtain ⟨k, hk, rfl⟩ := List.mem_map.1 hx
  have hk := List.mem_range.1 hk
  obtain ⟨b, off, A4, c4, rfl, hokb, e0, e1, e2, e3, e4, hl4, hF⟩ := G_ent hG (xs.length - 1 - k) (by omega)
  unfold itemAt
  simp only [cvAt, Addr.add, ← Nat.add_assoc]
  rw [if_neg (by omega), e4, List.getD_eq_getElem?_getD, List.getElem?_eq_getElem (by omega), Option.getD_some, Option.getD_some]
  exact ⟨⟨A4, c4, rfl, hl4, hF⟩, List.getElem_mem _⟩

def NoConf (pre : List Item) : Prop := ∀ p, p ∈ pre → p.2.1.f2 ≠ 3
/-- An entry lies in a box of its own. -/
def EntBox (lim : Nat) (p : Item) (X : World) (Be : Nat) : Prop := ∃ Ae ce, lim ≤ Be ∧ p.2.2 = .slice Ae p.2.1.f4.length ce ∧ X.heap[Be]? = some (.cells #[.int .u64 p.2.1.f0, .int .u64 p.2.1.f1, .int .u8 p.2.1.f2, .string p.2.1.f3, .slice Ae p.2.1.f4.length ce] 31 (0, 0))
theorem EntBox.fr {lim : Nat} {p : Item} {X Y : World} {Be : Nat} {S : Nat → Prop} (h : EntBox lim p X Be) (hf : Fr X Y S) (hs : ∀ k, S k → k < lim) : EntBox lim p Y Be := by
  obtain ⟨Ae, ce, h1, h2, h3⟩ := h
  exact ⟨Ae, ce, h1, h2, hf.blk (fun h => by have := hs _ h; omega) h3⟩
def SaysI (n0 : Nat) (W2 : World) (pre : List Item) (X : World) : Prop :=
  NoConf pre ∧ X.heap[n0]? = some (.cells #[.slice none 0 0] 28 (0, 0)) ∧ X.heap[n0 + 1]? = some (.cells #[.int .u64 0] 27 (0, 0)) ∧ Fr W2 X (fun k => k = n0 ∨ k = n0 + 1)
def SaysX (n0 : Nat) (W2 : World) (j : Code) (pre : List Item) (X : World) : Prop :=
  j = .ret ∧ ∃ ini p v, pre = ini ++ [p] ∧ NoConf ini ∧ p.2.1.f2 = 3 ∧ X.heap[n0]? = some (.cells #[v] 28 (0, 0)) ∧ X.heap[n0 + 1]? = some (.cells #[.int .u64 p.2.1.f0] 27 (0, 0)) ∧
      G (Kd.int .i64) 3 X (fun k => n0 + 10 ≤ k) v p.2.1.f4 ∧ Fr W2 X (fun k => k = n0 ∨ k = n0 + 1)
def SaysT (n0 g : Nat) (i : Int) (p : Item) (Be : Nat) : Array Value := #[.pointer (some ⟨g, 0, none⟩), .int .u64 i, undef, undef, .pointer (some ⟨n0, 0, none⟩), .pointer (some ⟨n0 + 1, 0, none⟩), .pointer (some ⟨Be, 0, none⟩), .pointer (some ⟨g, 0, none⟩), .int .u64 i,
        .func (.func 51) #[] #[.pointer (some ⟨n0 + 2, 0, none⟩), .pointer (some ⟨n0 + 3, 0, none⟩)], entV p.2.1 p.2.2, undef, undef, undef, undef, undef, undef, undef, undef, undef, undef, undef, undef, undef, undef, undef, undef, undef]
def SaysA (n0 g : Nat) (i : Int) (W2 : World) (pre : List Item) (p : Item) (a₁ : Act) (X : World) : Prop :=
  SaysI n0 W2 pre X ∧ ∃ Be, EntBox (n0 + 10) p X Be ∧ a₁ = { tmps := SaysT n0 g i p Be, defers := [] }

set_option maxRecDepth 100000 in
set_option maxHeartbeats 1000000 in
theorem says_any {g : Nat} {w : World} {ok : Nat → Prop} {lv : Value} {st : LS} (h : IsL 70 g w ok lv st) (hok : LSok st) (i : Int) :
    Calls Try.prog 40 #[.pointer (some ⟨g, 0, none⟩), .int .u64 i] w fun e w' => ∃ v, e = .returned (.tuple #[v, .int .u64 (st.says i).2]) ∧ G (Kd.int .i64) 3 w' (fun k => w.heap.size ≤ k) v (st.says i).1 ∧ Below w.heap.size w w' := by
  have hlen := hok.len
  have hgl := h.lt
  have hmay := hok.may
  have hconf := confB_len hok.conf
  obtain ⟨A, c, rfl, _⟩ := G_slice h.l
  have h := IsL.bound h
  generalize hn0 : w.heap.size = n0 at *
  refine (callsIn_wide (n := 9)).1 ?_
  refine callsIn_of_wp_marks Try.func40 rfl trivial ?_ rfl
  simp only [Try.ntmps40, List.size_toArray, List.length_cons, List.length_nil, Nat.reduceAdd, Nat.reduceSub, Array.replicate_succ, Array.replicate_zero, List.push_toArray, List.append_toArray, List.nil_append, List.cons_append]
  gi_wp2
  refine ⟨trivial, (callsIn_wide.2 (back_any _ _ _)).mono ?_⟩
  rintro e w' ⟨rfl, rfl⟩
  gi_wp2
  try simp only [World.size_alloc, hn0]
  obtain ⟨W2, hW2⟩ : ∃ W2, (((w.alloc (.cells #[.slice none 0 0] 28)).alloc (.cells #[.int .u64 0] 27)).alloc (.cells #[.pointer (some ⟨g, 0, none⟩)] 23)).alloc (.cells #[.int .u64 i] 27) = W2 := ⟨_, rfl⟩
  have hsz : W2.heap.size = n0 + 4 := by rw [← hW2]; simp [hn0]
  have hF2 : Below w.heap.size w W2 := by rw [← hW2]; exact (((Fr.refl w (fun _ => False)).alloc _).alloc _ |>.alloc _ |>.alloc _).below (fun _ h => h.elim)
  have h4 : W2.heap[n0]? = some (.cells #[.slice none 0 0] 28 (0, 0)) := by
    rw [← hW2, ← hn0]; exact (((Fr.refl _ (fun _ => False)).alloc _).alloc _ |>.alloc _).blk (fun h => h) (blk_new w _)
  have h5 : W2.heap[n0 + 1]? = some (.cells #[.int .u64 0] 27 (0, 0)) := by
    rw [← hW2, ← hn0]; refine (((Fr.refl _ (fun _ => False)).alloc _).alloc _).blk (fun h => h) ?_
    have := blk_new (w.alloc (.cells #[.slice none 0 0] 28)) (.cells #[.int .u64 0] 27); rwa [World.size_alloc] at this
  have h6 : W2.heap[n0 + 2]? = some (.cells #[.pointer (some ⟨g, 0, none⟩)] 23 (0, 0)) := by
    rw [← hW2, ← hn0]; refine ((Fr.refl _ (fun _ => False)).alloc _).blk (fun h => h) ?_
    have := blk_new ((w.alloc (.cells #[.slice none 0 0] 28)).alloc (.cells #[.int .u64 0] 27)) (.cells #[.pointer (some ⟨g, 0, none⟩)] 23); rwa [World.size_alloc, World.size_alloc] at this
  have h7 : W2.heap[n0 + 3]? = some (.cells #[.int .u64 i] 27 (0, 0)) := by
    rw [← hW2, ← hn0]
    have := blk_new (((w.alloc (.cells #[.slice none 0 0] 28)).alloc (.cells #[.int .u64 0] 27)).alloc (.cells #[.pointer (some ⟨g, 0, none⟩)] 23)) (.cells #[.int .u64 i] 27); rwa [World.size_alloc, World.size_alloc, World.size_alloc] at this
  have hL2 := h.below hF2
  rw [hW2]
  have hS := back1 (M := fun k => k = n0 ∨ k = n0 + 1) (i := i) h6 (by omega) h7 (by omega) hL2 (by omega) (fun k hk => by have := hk.2; omega) (by rintro k (h | h) <;> omega) hlen
  have HI := Lib.hid (item_ok (G_mono hL2.l (fun k hk => hk.1)) i)
  have hbi := back_items W2 A st i
  have HL2 := Lib.hid hL2
  have HF2 := Lib.hid (Fr.of_below hF2 (fun _ => False))
  generalize hxs : (bk (itemAt W2 A st.l) st.l.length st.l.length).filter (upTo i) = xs at *
  clear hxs hL2 h
  refine range_law (gf := 51) (lb := #[.pointer (some ⟨n0 + 2, 0, none⟩), .pointer (some ⟨n0 + 3, 0, none⟩)]) (by simp [go_sem]) (enters_of Try.func51 (by kernel_rfl) rfl) hS (by rintro k (h | h) <;> omega) (fun _ => rfl)
    (SaysI n0 W2) (SaysX n0 W2) (SaysA n0 g i W2) ?_ ?_ ?_ ?_ ?assign ?body ?done ?stop
  · rintro pre X Y ⟨h1, h2, h3, h4⟩ hf
    exact ⟨h1, hf.blk (fun h => by have := h.1; omega) h2, hf.blk (fun h => by have := h.1; omega) h3, h4.trans hf (fun k h => .inr h.1)⟩
  · rintro j pre X Y ⟨h1, ini, p, v, e1, e2, e3, h2, h3, h4, h5⟩ hf
    exact ⟨h1, ini, p, v, e1, e2, e3, hf.blk (fun h => by have := h.1; omega) h2, hf.blk (fun h => by have := h.1; omega) h3, G_fr h4 hf (fun k hk h => by have := h.2; omega), h5.trans hf (fun k h => .inr h.1)⟩
  · rintro pre x a X Y ⟨⟨h1, h2, h3, h4⟩, Be, hE, h8⟩ hf
    exact ⟨⟨h1, hf.blk (fun h => by have := h.1; omega) h2, hf.blk (fun h => by have := h.1; omega) h3, h4.trans hf (fun k h => .inr h.1)⟩, Be, hE.fr hf (fun k h => by have := h.2; omega), h8⟩
  · exact ⟨fun p h => (by cases h), h4, h5, Fr.refl _ _⟩
  case assign =>
    rintro l2 pre x X hXs hpre ⟨h1, h2, h3, h4⟩
    obtain ⟨⟨Ae, ce, hx, hlc, _⟩, _⟩ := HI.out x (hpre.subset (List.mem_append.2 (.inr (by simp))))
    obtain ⟨x0, x1, x2⟩ := x
    dsimp only at hx
    subst hx
    simp only [enc1]
    gi_wp2
    exact ⟨(Fr.refl _ _).alloc _, ⟨h1, ((Fr.refl X (fun _ => False)).alloc _).blk (fun h => h) h2, ((Fr.refl X (fun _ => False)).alloc _).blk (fun h => h) h3, h4.alloc _⟩, X.heap.size, ⟨Ae, ce, by omega, rfl, World.alloc_heap_new _ _⟩, rfl⟩
  case body =>
    rintro l2 pre x a X hXs hpre ⟨⟨h1, h2, h3, h4⟩, Be, ⟨Ae, ce, h5, h6, h7⟩, rfl⟩
    have e0 := blk_cell h7 0
    have e1 := blk_cell h7 1
    have e2 := blk_cell h7 2
    have e3 := blk_cell h7 3
    have e4 := blk_cell h7 4
    simp only [List.getElem?_toArray, List.getElem?_cons_succ, List.getElem?_cons_zero] at e0 e1 e2 e3 e4
    obtain ⟨x0, x1, x2⟩ := x
    dsimp only at h6 e0 e1 e2 e3 e4
    subst h6
    obtain ⟨hRx, hxm⟩ := HI.out _ (hpre.subset (List.mem_append.2 (.inr (List.mem_singleton.2 rfl))))
    have hx7 := mayE_conf (hmay _ hxm)
    dsimp only at hRx hx7
    have HR := Lib.hid hRx
    have HP := Lib.hid h1
    have H2 := Lib.hid h2
    have H3 := Lib.hid h3
    have H4 := Lib.hid h4
    clear hRx h1 h2 h3 h4 h7
    simp only [SaysT]
    by_cases hk : x1.f2 = 3
    · have hk' : (x1.f2 == 3) = true := by simpa using hk
      gi_wp2
      have hXn : n0 + 10 ≤ X.heap.size := by omega
      have HRX := Lib.hid (RV_C (RV_fr HR.out H4.out (fun k hk h => by have := hk.2; omega)))
      have HS : ∀ w', Fr X w' (fun k => k = n0 ∨ k = n0 + 1) → (fun w' => w'.cell? ⟨Be, 4, none⟩ = some (.slice Ae x1.f4.length ce) ∧ w'.cell? ⟨Be, 0, none⟩ = some (.int .u64 x1.f0)) w' := fun w' hf => ⟨hf.cell (by dsimp only; omega) e4, hf.cell (by dsimp only; omega) e0⟩
      clear e0 e1 e2 e3 e4
      refine startR_ (n := 7) (S := (fun w' => w'.cell? ⟨Be, 4, none⟩ = some (.slice Ae x1.f4.length ce) ∧ w'.cell? ⟨Be, 0, none⟩ = some (.int .u64 x1.f0))) (ds := []) #[false, false, false, false, false, false, false] (by kernel_rfl) (by rintro ⟨_, _, h⟩; exact h) (by kernel_rfl) rfl rfl (by exact HS _ (Fr.refl X _).drew) (fun hHeld => ?_)
      refine pure_ (i := 0) (N := some 14) (v := ?_) (a' := ?_) #[true, false, false, false, false, false, false] rfl rfl (by kernel_rfl) (fun _ _ _ h => h) (Or.inl ⟨by rfl, ?_⟩) ?_ ?_   -- fieldAddr
      rotate_left
      · intro w'
        go_simp
        with_reducible rfl
      rotate_left
      · simp only [Act.put, List.setIfInBounds_toArray, List.set_cons_zero, List.set_cons_succ]
        rfl
      refine pure_ (i := 3) (N := some 17) (v := ?_) (a' := ?_) #[true, false, false, true, false, false, false] rfl rfl (by kernel_rfl) (fun _ _ _ h => h) (Or.inl ⟨by rfl, ?_⟩) ?_ ?_   -- fieldAddr
      rotate_left
      · intro w'
        go_simp
        with_reducible rfl
      rotate_left
      · simp only [Act.put, List.setIfInBounds_toArray, List.set_cons_zero, List.set_cons_succ]
        rfl
      refine take_ (i := 1) (N := some 15) (v := ?_) (a' := ?_) #[true, true, false, true, false, false, false] rfl rfl (by kernel_rfl) (fun _ _ _ h => h) (Or.inl ⟨by rfl, ?_⟩) hHeld ?_ ?_   -- Go.Op.load 28 (Go.Operand.tmp 14)
      rotate_left
      · rintro w' ⟨s0, s1⟩
        go_simp
        with_reducible rfl
      rotate_left
      · simp only [Act.put, List.setIfInBounds_toArray, List.set_cons_zero, List.set_cons_succ]
        rfl
      refine take_ (i := 4) (N := some 18) (v := ?_) (a' := ?_) #[true, true, false, true, true, false, false] rfl rfl (by kernel_rfl) (fun _ _ _ h => h) (Or.inl ⟨by rfl, ?_⟩) hHeld ?_ ?_   -- Go.Op.load 27 (Go.Operand.tmp 17)
      rotate_left
      · rintro w' ⟨s0, s1⟩
        go_simp
        with_reducible rfl
      rotate_left
      · simp only [Act.put, List.setIfInBounds_toArray, List.set_cons_zero, List.set_cons_succ]
        rfl
      refine one_ (i := 2) (N := some 16) #[true, true, true, true, true, false, false] rfl rfl (by kernel_rfl) (by decide) (fun K hK => ?_)   -- Go.Op.call { callee := Go.Callee.value (Go.Operand.func 35), args := #[Go.Operand.tmp 15], argTypes := #[28] }
      refine goes_ Try.func35 (by kernel_rfl) rfl #[.slice Ae x1.f4.length ce] (by rfl) rfl rfl (by simp only [List.map_toArray, List.map_cons, List.map_nil]; rfl) ?_
      refine (clone_int Ae ce _ _ (Kd.C_drew HRX.out) (by omega)).mono ?_
      rintro e w3 ⟨v, rfl, hv, hb3⟩
      have HF3 : Fr X w3 (fun k => k = n0 ∨ k = n0 + 1) := (Fr.of_below (below_then (below_drew (Below.refl _ _)) (Nat.le_refl _) hb3) _)
      have H23 := Lib.hid ((Fr.of_below (below_then (below_drew (Below.refl _ X)) (Nat.le_refl _) hb3) (fun _ => False)).blk (fun h => h) H2.out)
      have H33 := Lib.hid ((Fr.of_below (below_then (below_drew (Below.refl _ X)) (Nat.le_refl _) hb3) (fun _ => False)).blk (fun h => h) H3.out)
      have HV := Lib.hid (G_mono hv (ok' := fun k => n0 + 10 ≤ k) (fun k hk => Nat.le_trans hXn hk))
      obtain ⟨Av, cv, rfl, _⟩ := G_slice hv
      refine ⟨_, rfl, ?_⟩
      refine hK.out _ _ (HS _ HF3) (fun hHeld => ?_)
      clear hK K hv hb3
      refine norm_ (a' := ?_) ?_ ?_
      rotate_left
      · show Act.put _ (some 16) _ = _
        simp only [Act.put, List.setIfInBounds_toArray, List.set_cons_zero, List.set_cons_succ]
        rfl
      refine one_ (i := 5) (N := none) #[true, true, true, true, true, true, false] rfl rfl (by kernel_rfl) (by decide) (fun K hK => ?_)   -- Go.Op.store 28 (Go.Operand.tmp 4) (Go.Operand.tmp 16)
      have c0 := blk_cell H23.out
      have f0 := blk_frozen H23.out
      refine skip_ (by rfl) rfl (by go_simp; rfl) ?_
      have HF4 : Fr X (w3.setCell ⟨n0, 0, none⟩ (.slice Av x1.f4.length cv)) (fun k => k = n0 ∨ k = n0 + 1) := HF3.setCell (p := ⟨n0, 0, none⟩) (.inl (.inl rfl)) _
      refine hK.out _ _ (HS _ HF4) (fun hHeld => ?_)
      clear hK K c0 f0
      refine one_ (i := 6) (N := none) #[true, true, true, true, true, true, true] rfl rfl (by kernel_rfl) (by decide) (fun K hK => ?_)   -- Go.Op.store 27 (Go.Operand.tmp 5) (Go.Operand.tmp 18)
      have c0 := blk_cell ((Below.heap_setCell w3 ⟨n0, 0, none⟩ (.slice Av x1.f4.length cv) (n0 + 1) (by simp)).trans H33.out)
      have f0 := blk_frozen ((Below.heap_setCell w3 ⟨n0, 0, none⟩ (.slice Av x1.f4.length cv) (n0 + 1) (by simp)).trans H33.out)
      refine skip_ (by rfl) rfl (by go_simp; rfl) ?_
      have HF5 : Fr X ((w3.setCell ⟨n0, 0, none⟩ (.slice Av x1.f4.length cv)).setCell ⟨n0 + 1, 0, none⟩ (.int .u64 x1.f0)) (fun k => k = n0 ∨ k = n0 + 1) := HF4.setCell (p := ⟨n0 + 1, 0, none⟩) (.inl (.inr rfl)) _
      refine hK.out _ _ (HS _ HF5) (fun hHeld => ?_)
      clear hK K c0 f0
      refine done_ (by kernel_rfl) ?_
      gi_wp2
      refine ⟨HF5, rfl, pre, _, .slice Av x1.f4.length cv, rfl, HP.out, hk, ?_, ?_, ?_, H4.out.trans HF5 (fun i hi => .inl hi)⟩
      · exact blk_far (by simpa using blk_set H23.out 0 (.slice Av x1.f4.length cv)) (p := ⟨n0 + 1, 0, none⟩) (by simp) _
      · simpa using blk_set (blk_far H33.out (p := ⟨n0, 0, none⟩) (by simp) (.slice Av x1.f4.length cv)) 0 (.int .u64 x1.f0)
      · exact G_set (G_set HV.out (p := ⟨n0, 0, none⟩) (by simp) _) (p := ⟨n0 + 1, 0, none⟩) (by simp) _
    · have hk' : (x1.f2 == 3) = false := by simpa using hk
      gi_wp2
      exact ⟨Fr.refl _ _, fun p hp => (List.mem_append.1 hp).elim (HP.out p) (fun e => by rw [List.mem_singleton.1 e]; exact hk), H2.out, H3.out, H4.out⟩
  case done =>
    rintro X ⟨h1, h2, h3, h4⟩ hK
    gi_wp2_with fail
    refine wpIn_wide.2 (wp_calm ?_)
    obtain ⟨⟨cvv, hbg, hcv⟩, _⟩ := HL2.out
    have hXs := h4.size
    have hbX := h4.blk (by omega) hbg
    have hcX := RV_fr hcv h4 (fun k hk h => by have := hk.1.2; omega)
    obtain ⟨Ae, ce, rfl, hce, hFc⟩ := hcX
    have HRX := Lib.hid (Kd.F_now hFc)
    have H23 := Lib.hid h2
    have H33 := Lib.hid h3
    have H4 := Lib.hid h4
    have HP := Lib.hid h1
    have e0 := blk_cell hbX 0
    have e2 := blk_cell hbX 2
    simp only [List.getElem?_toArray, List.getElem?_cons_succ, List.getElem?_cons_zero] at e0 e2
    have HS : ∀ w', Fr X w' (fun k => k = n0 ∨ k = n0 + 1) → (fun w' => w'.cell? ⟨g, 2, none⟩ = some (.slice Ae st.conf.length ce) ∧ w'.cell? ⟨g, 0, none⟩ = some (.int .u64 st.index)) w' := fun w' hf => ⟨hf.cell (by dsimp only; omega) e2, hf.cell (by dsimp only; omega) e0⟩
    have HK := Lib.hid hK
    clear e0 e2 hbX hFc h2 h3 h4 h1 hK hbg hcv
    refine start_ (n := 11) (S := (fun w' => w'.cell? ⟨g, 2, none⟩ = some (.slice Ae st.conf.length ce) ∧ w'.cell? ⟨g, 0, none⟩ = some (.int .u64 st.index))) (ds := []) #[false, false, false, false, false, false, false, false, false, false, false] (by kernel_rfl) rfl rfl (by exact HS _ (Fr.refl X _).drew) (fun hHeld => ?_)
    refine pure_ (i := 0) (N := some 19) (v := ?_) (a' := ?_) #[true, false, false, false, false, false, false, false, false, false, false] rfl rfl (by kernel_rfl) (fun _ _ _ h => h) (Or.inl ⟨by rfl, ?_⟩) ?_ ?_   -- move
    rotate_left
    · intro w'
      go_simp
      with_reducible rfl
    rotate_left
    · simp only [Act.put, List.setIfInBounds_toArray, List.set_cons_zero, List.set_cons_succ]
      rfl
    refine pure_ (i := 1) (N := some 20) (v := ?_) (a' := ?_) #[true, true, false, false, false, false, false, false, false, false, false] rfl rfl (by kernel_rfl) (fun _ _ _ h => h) (Or.inl ⟨by rfl, ?_⟩) ?_ ?_   -- nilCheck
    rotate_left
    · intro w'
      go_simp
      with_reducible rfl
    rotate_left
    · simp only [Act.put, List.setIfInBounds_toArray, List.set_cons_zero, List.set_cons_succ]
      rfl
    refine pure_ (i := 2) (N := some 21) (v := ?_) (a' := ?_) #[true, true, true, false, false, false, false, false, false, false, false] rfl rfl (by kernel_rfl) (fun _ _ _ h => h) (Or.inl ⟨by rfl, ?_⟩) ?_ ?_   -- fieldAddr
    rotate_left
    · intro w'
      go_simp
      with_reducible rfl
    rotate_left
    · simp only [Act.put, List.setIfInBounds_toArray, List.set_cons_zero, List.set_cons_succ]
      rfl
    refine pure_ (i := 5) (N := some 24) (v := ?_) (a' := ?_) #[true, true, true, false, false, true, false, false, false, false, false] rfl rfl (by kernel_rfl) (fun _ _ _ h => h) (Or.inl ⟨by rfl, ?_⟩) ?_ ?_   -- move
    rotate_left
    · intro w'
      go_simp
      with_reducible rfl
    rotate_left
    · simp only [Act.put, List.setIfInBounds_toArray, List.set_cons_zero, List.set_cons_succ]
      rfl
    refine pure_ (i := 6) (N := some 25) (v := ?_) (a' := ?_) #[true, true, true, false, false, true, true, false, false, false, false] rfl rfl (by kernel_rfl) (fun _ _ _ h => h) (Or.inl ⟨by rfl, ?_⟩) ?_ ?_   -- nilCheck
    rotate_left
    · intro w'
      go_simp
      with_reducible rfl
    rotate_left
    · simp only [Act.put, List.setIfInBounds_toArray, List.set_cons_zero, List.set_cons_succ]
      rfl
    refine pure_ (i := 7) (N := some 26) (v := ?_) (a' := ?_) #[true, true, true, false, false, true, true, true, false, false, false] rfl rfl (by kernel_rfl) (fun _ _ _ h => h) (Or.inl ⟨by rfl, ?_⟩) ?_ ?_   -- fieldAddr
    rotate_left
    · intro w'
      go_simp
      with_reducible rfl
    rotate_left
    · simp only [Act.put, List.setIfInBounds_toArray, List.set_cons_zero, List.set_cons_succ]
      rfl
    refine take_ (i := 3) (N := some 22) (v := ?_) (a' := ?_) #[true, true, true, true, false, true, true, true, false, false, false] rfl rfl (by kernel_rfl) (fun _ _ _ h => h) (Or.inl ⟨by rfl, ?_⟩) hHeld ?_ ?_   -- Go.Op.load 28 (Go.Operand.tmp 21)
    rotate_left
    · rintro w' ⟨s0, s1⟩
      go_simp
      with_reducible rfl
    rotate_left
    · simp only [Act.put, List.setIfInBounds_toArray, List.set_cons_zero, List.set_cons_succ]
      rfl
    refine take_ (i := 8) (N := some 27) (v := ?_) (a' := ?_) #[true, true, true, true, false, true, true, true, true, false, false] rfl rfl (by kernel_rfl) (fun _ _ _ h => h) (Or.inl ⟨by rfl, ?_⟩) hHeld ?_ ?_   -- Go.Op.load 27 (Go.Operand.tmp 26)
    rotate_left
    · rintro w' ⟨s0, s1⟩
      go_simp
      with_reducible rfl
    rotate_left
    · simp only [Act.put, List.setIfInBounds_toArray, List.set_cons_zero, List.set_cons_succ]
      rfl
    refine one_ (i := 4) (N := some 23) #[true, true, true, true, true, true, true, true, true, false, false] rfl rfl (by kernel_rfl) (by decide) (fun K hK => ?_)   -- Go.Op.call { callee := Go.Callee.value (Go.Operand.func 35), args := #[Go.Operand.tmp 22], argTypes := #[28] }
    refine goes_ Try.func35 (by kernel_rfl) rfl #[.slice Ae st.conf.length ce] (by rfl) rfl rfl (by simp only [List.map_toArray, List.map_cons, List.map_nil]; rfl) ?_
    refine (clone_int Ae ce _ _ (Kd.C_drew HRX.out) (by omega)).mono ?_
    rintro e w3 ⟨v, rfl, hv, hb3⟩
    have HF3 : Fr X w3 (fun k => k = n0 ∨ k = n0 + 1) := (Fr.of_below (below_then (below_drew (Below.refl _ _)) (Nat.le_refl _) hb3) _)
    have H24 := Lib.hid ((Fr.of_below (below_then (below_drew (Below.refl _ X)) (Nat.le_refl _) hb3) (fun _ => False)).blk (fun h => h) H23.out)
    have H34 := Lib.hid ((Fr.of_below (below_then (below_drew (Below.refl _ X)) (Nat.le_refl _) hb3) (fun _ => False)).blk (fun h => h) H33.out)
    have HV := Lib.hid (G_mono hv (ok' := fun k => X.heap.size ≤ k) (fun k hk => hk))
    obtain ⟨Av, cv, rfl, _⟩ := G_slice hv
    refine ⟨_, rfl, ?_⟩
    refine hK.out _ _ (HS _ HF3) (fun hHeld => ?_)
    clear hK K hv hb3
    refine norm_ (a' := ?_) ?_ ?_
    rotate_left
    · show Act.put _ (some 23) _ = _
      simp only [Act.put, List.setIfInBounds_toArray, List.set_cons_zero, List.set_cons_succ]
      rfl
    refine one_ (i := 9) (N := none) #[true, true, true, true, true, true, true, true, true, true, false] rfl rfl (by kernel_rfl) (by decide) (fun K hK => ?_)   -- Go.Op.store 28 (Go.Operand.tmp 4) (Go.Operand.tmp 23)
    have c0 := blk_cell H24.out
    have f0 := blk_frozen H24.out
    refine skip_ (by rfl) rfl (by go_simp; rfl) ?_
    have HF4 : Fr X (w3.setCell ⟨n0, 0, none⟩ (.slice Av st.conf.length cv)) (fun k => k = n0 ∨ k = n0 + 1) := HF3.setCell (p := ⟨n0, 0, none⟩) (.inl (.inl rfl)) _
    refine hK.out _ _ (HS _ HF4) (fun hHeld => ?_)
    clear hK K c0 f0
    refine one_ (i := 10) (N := none) #[true, true, true, true, true, true, true, true, true, true, true] rfl rfl (by kernel_rfl) (by decide) (fun K hK => ?_)   -- Go.Op.store 27 (Go.Operand.tmp 5) (Go.Operand.tmp 27)
    have c0 := blk_cell ((Below.heap_setCell w3 ⟨n0, 0, none⟩ (.slice Av st.conf.length cv) (n0 + 1) (by simp)).trans H34.out)
    have f0 := blk_frozen ((Below.heap_setCell w3 ⟨n0, 0, none⟩ (.slice Av st.conf.length cv) (n0 + 1) (by simp)).trans H34.out)
    refine skip_ (by rfl) rfl (by go_simp; rfl) ?_
    have HF5 : Fr X ((w3.setCell ⟨n0, 0, none⟩ (.slice Av st.conf.length cv)).setCell ⟨n0 + 1, 0, none⟩ (.int .u64 st.index)) (fun k => k = n0 ∨ k = n0 + 1) := HF4.setCell (p := ⟨n0 + 1, 0, none⟩) (.inl (.inr rfl)) _
    refine hK.out _ _ (HS _ HF5) (fun hHeld => ?_)
    clear hK K c0 f0
    refine done_ (by kernel_rfl) ?_
    have hKl := blk_lt HK.out
    have hK5 := HF5.blk (by omega) HK.out
    have hc4 : ((w3.setCell ⟨n0, 0, none⟩ (.slice Av st.conf.length cv)).setCell ⟨n0 + 1, 0, none⟩ (.int .u64 st.index)).heap[n0]? = some (.cells #[.slice Av st.conf.length cv] 28 (0, 0)) :=
      blk_far (by simpa using blk_set H24.out 0 (.slice Av st.conf.length cv)) (p := ⟨n0 + 1, 0, none⟩) (by simp) _
    have hc5 : ((w3.setCell ⟨n0, 0, none⟩ (.slice Av st.conf.length cv)).setCell ⟨n0 + 1, 0, none⟩ (.int .u64 st.index)).heap[n0 + 1]? = some (.cells #[.int .u64 st.index] 27 (0, 0)) := by
      simpa using blk_set (blk_far H34.out (p := ⟨n0, 0, none⟩) (by simp) (.slice Av st.conf.length cv)) 0 (.int .u64 st.index)
    have hG5 := G_set (G_set HV.out (p := ⟨n0, 0, none⟩) (by simp; omega) (.slice Av st.conf.length cv)) (p := ⟨n0 + 1, 0, none⟩) (by simp; omega) (.int .u64 st.index)
    have hF5 := HF2.out.trans (H4.out.trans HF5 (S := fun k => k = n0 ∨ k = n0 + 1) (fun i hi => .inl hi)) (fun i hi => .inr (by omega))
    clear HS hHeld HF3 HF4
    generalize ((w3.setCell ⟨n0, 0, none⟩ (.slice Av st.conf.length cv)).setCell ⟨n0 + 1, 0, none⟩ (.int .u64 st.index)) = w5 at *
    simp only [Calm]
    gi_wp2
    refine ⟨by simp, .inl ⟨_, _, rfl, run_takeDeferred hK5, ?_⟩⟩
    have hfin : st.says i = (st.conf, st.index) := by
      unfold LS.says
      rw [← hbi, List.find?_eq_none.2 ?_]
      intro e he
      obtain ⟨p, hp, rfl⟩ := List.mem_map.1 he
      simpa using HP.out p hp
    rw [hfin]
    have hlast : Fr w5 (w5.putObj W2.heap.size (.deferred none)) (fun k => k = W2.heap.size) := Fr.putObj (S := fun k => k = W2.heap.size) (Fr.refl _ _) (.inl rfl) _
    refine ⟨_, ?_, _, rfl, G_mono (G_fr hG5 hlast (fun k hk => by omega)) (fun k hk => by omega), ?_⟩
    · have q4 := blk_cell (hlast.blk (by omega) hc4) 0
      have q5 := blk_cell (hlast.blk (by omega) hc5) 0
      simp only [List.getElem?_toArray, List.getElem?_cons_zero] at q4 q5
      simp [results, Try.f40, go_sem, q4, q5]
    · rw [← hn0]; exact (hF5.trans hlast (fun i hi => .inr (by omega))).below (fun k hk => hk.elim)
  case stop =>
    rintro j pre X hpre ⟨rfl, ini, p, v, e1, e2, e3, h2, h3, h4, h5⟩ hK
    gi_wp2
    refine ⟨by simp, .inl ⟨_, _, rfl, run_takeDeferred hK, ?_⟩⟩
    have hfin : st.says i = (p.2.1.f4, p.2.1.f0) := by
      unfold LS.says
      have hpre' := hpre.map (fun p : Item => p.2.1)
      rw [hbi, e1] at hpre'
      obtain ⟨t, ht⟩ := hpre'
      rw [← ht, List.map_append, List.append_assoc, List.find?_append, List.find?_eq_none.2 ?_]
      · simp [e3]
      · intro e he
        obtain ⟨p, hp, rfl⟩ := List.mem_map.1 he
        simpa using e2 p hp
    rw [hfin]
    have hlast : Fr X (X.putObj W2.heap.size (.deferred none)) (fun k => k = W2.heap.size) := Fr.putObj (S := fun k => k = W2.heap.size) (Fr.refl _ _) (.inl rfl) _
    refine ⟨_, ?_, _, rfl, G_mono (G_fr h4 hlast (fun k hk => by omega)) (fun k hk => by omega), ?_⟩
    · have q4 := blk_cell (hlast.blk (by omega) h2) 0
      have q5 := blk_cell (hlast.blk (by omega) h3) 0
      simp only [List.getElem?_toArray, List.getElem?_cons_zero] at q4 q5
      simp [results, Try.f40, go_sem, q4, q5]
    · rw [← hn0]; exact ((HF2.out.trans h5 (S := fun _ => False) (fun i hi => .inr (by omega))).trans hlast (fun i hi => .inr (by omega))).below (fun k hk => hk.elim)
end Go.Proofs.Ytpnmodkddiljeaa
