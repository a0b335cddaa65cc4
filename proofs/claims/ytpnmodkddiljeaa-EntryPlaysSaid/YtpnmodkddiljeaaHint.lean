/- Hint. Conditions: the log is in order. -/
import Derived.Test.YtpnmodkddiljeaaSays
namespace Go.Proofs.Ytpnmodkddiljeaa
open Go.RowKit Go.Proofs.YtpnmodkddiljeaaW.PrintWords Go.Proofs.YtpnmodkddiljeaaW.PrintLast PEntryPlays Go.Shelf
attribute [local go_sem] Oper.semAt_some

def LS.hint (st : LS) (i : Int) : Int :=
  if st.last.1 < i then st.last.1 + 1 else if i ≤ st.index then st.index + 1 else
    match ((st.back i).takeWhile (fun e => decide (e.f1 = (st.l.getD (i - st.index - 1).toNat z31).f1))).getLast? with
    | none => i
    | some e => e.f0

set_option maxHeartbeats 400000 in
theorem hint_nil (i : Int) (w : World) : Calls Try.prog 33 #[.pointer none, .int .u64 i] w fun e w' => e = .returned (.int .u64 0) ∧ Below w.heap.size w w' := by
  go_enter Try.func33, Try.ntmps33
  go_wp2_with fail
  refine (last_nil _).mono ?_
  rintro e w1 ⟨rfl, hb⟩
  have hB0 : Fr w _ (fun _ => False) := (((Fr.refl w _).alloc _).alloc _).then_below hb
  have h2 := ((Fr.of_below hb (fun _ => False)).blk (fun h => h) (((Fr.refl _ (fun _ => False)).alloc _).blk (fun h => h) (blk_new w (.cells #[.pointer none] 23))))
  have c0 := blk_cell h2
  have HB := Lib.hid hB0
  clear hb h2 hB0
  go_wp2_with fail
  refine (made_nil _).mono ?_
  rintro e w' ⟨rfl, rfl⟩
  go_wp2
  go_ret
  exact ⟨rfl, HB.out.below (fun _ h => h.elim)⟩

set_option maxHeartbeats 400000 in
theorem hint_far {g : Nat} {w : World} {ok : Nat → Prop} {lv : Value} {st : LS} (h : IsL 70 g w ok lv st) (hok : LSok st) (i : Int) (h1 : st.last.1 < i) :
    Calls Try.prog 33 #[.pointer (some ⟨g, 0, none⟩), .int .u64 i] w fun e w' => e = .returned (.int .u64 (st.last.1 + 1)) ∧ Below w.heap.size w w' := by
  have hcl := (confB_len hok.conf).1
  have H := Lib.hid h
  have HLok := Lib.hid hok
  have hi0 := hok.i0
  have hi1 := hok.i1
  have hlen := hok.len
  have hla := hok.last1
  generalize hlast : st.last = la at *
  obtain ⟨la, lt⟩ := la
  dsimp only at *
  have HLa := Lib.hid hlast
  clear h hok hlast
  have q : IntKind.u64.wrap (la + 1) = la + 1 := IntWalk.u64_in _ (by omega)
  clear hla
  go_enter Try.func33, Try.ntmps33
  go_wp2_with fail
  have hB0 := (below_alloc (below_alloc (Below.refl w.heap.size w) (.cells #[.pointer (some ⟨g, 0, none⟩)] 23)) (.cells #[.int .u64 i] 27))
  refine (last_any (H.out.below hB0) hlen).mono ?_
  rintro e w1 ⟨rfl, hb⟩
  rw [HLa.out]
  have h2 := ((Fr.of_below hb (fun _ => False)).blk (fun h => h) (((Fr.refl _ (fun _ => False)).alloc _).blk (fun h => h) (blk_new w (.cells #[.pointer (some ⟨g, 0, none⟩)] 23))))
  have h3 := ((Fr.of_below hb (fun _ => False)).blk (fun h => h) (blk_new (w.alloc (.cells #[.pointer (some ⟨g, 0, none⟩)] 23)) (.cells #[.int .u64 i] 27)))
  rw [World.size_alloc] at h3
  have HB := Lib.hid (below_then hB0 hB0.size hb)
  have H2 := Lib.hid h2
  have H3 := Lib.hid h3
  clear hB0 hb h2 h3
  have c2 := blk_cell H2.out
  go_wp2_with fail
  refine (made_any (H.out.below HB.out) hcl).mono ?_
  rintro e w' ⟨rfl, rfl⟩
  have c3 := blk_cell H3.out
  go_wp2
  go_ret
  exact ⟨rfl, HB.out⟩

set_option maxHeartbeats 1000000 in
theorem hint_low {g : Nat} {w : World} {ok : Nat → Prop} {lv : Value} {st : LS} (h : IsL 70 g w ok lv st) (hok : LSok st) (i : Int) (h1 : ¬ st.last.1 < i) (h2 : i ≤ st.index) :
    Calls Try.prog 33 #[.pointer (some ⟨g, 0, none⟩), .int .u64 i] w fun e w' => e = .returned (.int .u64 (st.index + 1)) ∧ Below w.heap.size w w' := by
  have hcl := (confB_len hok.conf).1
  have H := Lib.hid h
  have HLok := Lib.hid hok
  have hi0 := hok.i0
  have hi1 := hok.i1
  have hlen := hok.len
  have hla := hok.last1
  generalize hlast : st.last = la at *
  obtain ⟨la, lt⟩ := la
  dsimp only at *
  have HLa := Lib.hid hlast
  clear h hok hlast
  have q : IntKind.u64.wrap (st.index + 1) = st.index + 1 := IntWalk.u64_in _ (by omega)
  go_enter Try.func33, Try.ntmps33
  go_wp2_with fail
  have hB0 := (below_alloc (below_alloc (Below.refl w.heap.size w) (.cells #[.pointer (some ⟨g, 0, none⟩)] 23)) (.cells #[.int .u64 i] 27))
  refine (last_any (H.out.below hB0) hlen).mono ?_
  rintro e w1 ⟨rfl, hb⟩
  rw [HLa.out]
  have h2 := ((Fr.of_below hb (fun _ => False)).blk (fun h => h) (((Fr.refl _ (fun _ => False)).alloc _).blk (fun h => h) (blk_new w (.cells #[.pointer (some ⟨g, 0, none⟩)] 23))))
  have h3 := ((Fr.of_below hb (fun _ => False)).blk (fun h => h) (blk_new (w.alloc (.cells #[.pointer (some ⟨g, 0, none⟩)] 23)) (.cells #[.int .u64 i] 27)))
  rw [World.size_alloc] at h3
  have HB := Lib.hid (below_then hB0 hB0.size hb)
  have H2 := Lib.hid h2
  have H3 := Lib.hid h3
  clear hB0 hb h2 h3
  have c2 := blk_cell H2.out
  go_wp2_with fail
  refine (made_any (H.out.below HB.out) hcl).mono ?_
  rintro e w' ⟨rfl, rfl⟩
  have c3 := blk_cell H3.out
  obtain ⟨⟨cv, hb1, _⟩, _⟩ := H.out.below HB.out
  have c0 := blk_cell hb1
  have d0 := c0 0
  have d2 := c2 0
  have d3 := c3 0
  simp only [List.getElem?_toArray, List.getElem?_cons_zero] at d0 d2 d3
  clear c0 hb1
  go_wp2_with fail
  clear c2 c3
  go_quiet (fail)
  have d0' : ∀ n, (w1.drewN n).cell? ⟨g, 0, none⟩ = some (.int .u64 st.index) := fun n => d0
  have d2' : ∀ n, (w1.drewN n).cell? ⟨w.heap.size, 0, none⟩ = some (.pointer (some ⟨g, 0, none⟩)) := fun n => d2
  go_wp2
  go_ret
  exact ⟨rfl, pw_below_drewN HB.out _⟩

theorem named {P : Program} {c : Code} {Q : Exit → Act → World → Prop} {a : Act} {w : World} (h : ∀ a0, a = a0 → c.wp P Q a0 w) : c.wp P Q a w := h a rfl

theorem takeWhile_all {α : Type} {p : α → Bool} {l : List α} (h : ∀ x, x ∈ l → p x = true) : l.takeWhile p = l := by
  induction l with
  | nil => rfl
  | cons x l ih => rw [List.takeWhile_cons_of_pos (h x (by simp)), ih (fun y hy => h y (by simp [hy]))]

def SameTerm (t : Int) (pre : List Item) : Prop := ∀ p, p ∈ pre → p.2.1.f1 = t
def atOf (i : Int) (pre : List Item) : Int := match pre.getLast? with | none => i | some p => p.2.1.f0
theorem atOf_snoc (i : Int) (pre : List Item) (p : Item) : atOf i (pre ++ [p]) = p.2.1.f0 := by simp [atOf]
def HintI (n1 : Nat) (t i : Int) (W2 : World) (pre : List Item) (X : World) : Prop :=
  SameTerm t pre ∧ X.heap[n1]? = some (.cells #[.int .u64 (atOf i pre)] 27 (0, 0)) ∧ Fr W2 X (fun k => k = n1)
def HintX (n1 : Nat) (t i : Int) (W2 : World) (j : Code) (pre : List Item) (X : World) : Prop :=
  j = .exit 1 ∧ ∃ ini p, pre = ini ++ [p] ∧ SameTerm t ini ∧ p.2.1.f1 ≠ t ∧ X.heap[n1]? = some (.cells #[.int .u64 (atOf i ini)] 27 (0, 0)) ∧ Fr W2 X (fun k => k = n1)

def HintA (n1 : Nat) (t i : Int) (W2 : World) (a0 : Act) (pre : List Item) (p : Item) (a₁ : Act) (X : World) : Prop :=
  HintI n1 t i W2 pre X ∧ ∃ Be, EntBox (n1 + 9) p X Be ∧ a₁ = { tmps := (a0.tmps.setIfInBounds 40 (entV p.2.1 p.2.2)).setIfInBounds 8 (.pointer (some ⟨Be, 0, none⟩)), defers := [] }

set_option maxRecDepth 100000 in
set_option maxHeartbeats 1000000 in
theorem hint_in {g : Nat} {w : World} {ok : Nat → Prop} {lv : Value} {st : LS} (h : IsL 70 g w ok lv st) (hok : LSok st) (i : Int) (h1 : ¬ st.last.1 < i) (h2 : ¬ i ≤ st.index) :
    Calls Try.prog 33 #[.pointer (some ⟨g, 0, none⟩), .int .u64 i] w fun e w' => e = .returned (.int .u64 (st.hint i)) ∧ Below w.heap.size w w' := by
  have hh : st.hint i = match ((st.back i).takeWhile (fun e => decide (e.f1 = (st.l.getD (i - st.index - 1).toNat z31).f1))).getLast? with | none => i | some e => e.f0 := by
    unfold LS.hint; rw [if_neg h1, if_neg h2]
  rw [hh]
  clear hh
  obtain ⟨n, hn⟩ : ∃ n : Nat, i - st.index - 1 = n := ⟨(i - st.index - 1).toNat, by omega⟩
  have hnl : n < st.l.length := by have := hok.last1; omega
  rw [hn, Int.toNat_natCast]
  obtain ⟨R, hR⟩ : ∃ R, (match ((st.back i).takeWhile (fun e => decide (e.f1 = (st.l.getD n z31).f1))).getLast? with | none => i | some e => e.f0) = R := ⟨_, rfl⟩
  rw [hR]
  have HRR := Lib.hid hR
  clear hR
  obtain ⟨A, c, rfl, _⟩ := G_slice h.l
  have hgl := h.lt
  have h := IsL.bound h
  have hcl := (confB_len hok.conf).1
  have H := Lib.hid h
  have HLok := Lib.hid hok
  have hi0 := hok.i0
  have hi1 := hok.i1
  have hlen := hok.len
  have hla := hok.last1
  generalize hlast : st.last = la at *
  obtain ⟨la, lt⟩ := la
  dsimp only at *
  have HLa := Lib.hid hlast
  clear h hok hlast
  clear hla
  refine (callsIn_wide (n := 9)).1 ?_
  refine callsIn_of_wp_marks Try.func33 rfl trivial ?_ rfl
  simp only [Try.ntmps33, List.size_toArray, List.length_cons, List.length_nil, Nat.reduceAdd, Nat.reduceSub, Array.replicate_succ, Array.replicate_zero, List.push_toArray, List.append_toArray, List.nil_append, List.cons_append]
  refine wpIn_wide.2 ?_
  go_wp2_with fail
  have hB0 := (below_alloc (below_alloc (Below.refl w.heap.size w) (.cells #[.pointer (some ⟨g, 0, none⟩)] 23)) (.cells #[.int .u64 i] 27))
  refine (last_any (H.out.below hB0) hlen).mono ?_
  rintro e w1 ⟨rfl, hb⟩
  rw [HLa.out]
  have h2 := ((Fr.of_below hb (fun _ => False)).blk (fun h => h) (((Fr.refl _ (fun _ => False)).alloc _).blk (fun h => h) (blk_new w (.cells #[.pointer (some ⟨g, 0, none⟩)] 23))))
  have h3 := ((Fr.of_below hb (fun _ => False)).blk (fun h => h) (blk_new (w.alloc (.cells #[.pointer (some ⟨g, 0, none⟩)] 23)) (.cells #[.int .u64 i] 27)))
  rw [World.size_alloc] at h3
  have HB := Lib.hid (below_then hB0 hB0.size hb)
  have H2 := Lib.hid h2
  have H3 := Lib.hid h3
  clear hB0 hb h2 h3
  have c2 := blk_cell H2.out
  go_wp2_with fail
  refine (made_any (H.out.below HB.out) hcl).mono ?_
  rintro e w' ⟨rfl, rfl⟩
  have c3 := blk_cell H3.out
  obtain ⟨⟨cv, hb1, _⟩, _⟩ := H.out.below HB.out
  have c0 := blk_cell hb1
  have d0 := c0 0
  have d2 := c2 0
  have d3 := c3 0
  simp only [List.getElem?_toArray, List.getElem?_cons_zero] at d0 d2 d3
  clear c0 hb1
  go_wp2_with fail
  clear c2 c3
  refine wp_calm ?_
  go_quiet (fail)
  simp only [Calm]
  have HB' := Lib.hid (pw_below_drewN HB.out nq)
  have H2' := Lib.hid (show (w1.drewN nq).heap[w.heap.size]? = _ from H2.out)
  have H3' := Lib.hid (show (w1.drewN nq).heap[w.heap.size + 1]? = _ from H3.out)
  generalize w1.drewN nq = w2 at *
  clear d0 d2 d3 HB H2 H3
  have d0 := fun o1 => blk_cell (((Fr.refl w2 (fun _ => False)).alloc o1).blk (fun h => h) H2'.out) 0
  have d2 := blk_cell H2'.out 0
  have d3 := blk_cell H3'.out 0
  have d4 := fun o1 => blk_cell (((Fr.refl w2 (fun _ => False)).alloc o1).blk (fun h => h) H3'.out) 0
  simp only [List.getElem?_toArray, List.getElem?_cons_zero] at d0 d2 d3 d4
  go_wp2_with fail
  refine (back_any _ _ _).mono ?_
  rintro e w' ⟨rfl, rfl⟩
  clear d0 d2 d3 d4
  go_wp2_with fail
  generalize hn1 : w2.heap.size = n1 at *
  have hwn : w.heap.size + 2 ≤ n1 := by rw [← hn1]; have := blk_lt H3'.out; omega
  obtain ⟨W2, hW2⟩ : ∃ W2, ((w2.alloc (.cells #[.int .u64 i] 27)).alloc (.cells #[.pointer (some ⟨g, 0, none⟩)] 23)).alloc (.cells #[.int .u64 i] 27) = W2 := ⟨_, rfl⟩
  have hsz : W2.heap.size = n1 + 3 := by rw [← hW2]; simp [hn1]
  have hF2 : Fr w2 W2 (fun _ => False) := by rw [← hW2]; exact (((Fr.refl w2 (fun _ => False)).alloc _).alloc _).alloc _
  have h5 : W2.heap[n1]? = some (.cells #[.int .u64 i] 27 (0, 0)) := by
    rw [← hW2, ← hn1]; exact (((Fr.refl _ (fun _ => False)).alloc _).alloc _).blk (fun h => h) (blk_new w2 _)
  have h6 : W2.heap[n1 + 1]? = some (.cells #[.pointer (some ⟨g, 0, none⟩)] 23 (0, 0)) := by
    rw [← hW2, ← hn1]; refine ((Fr.refl _ (fun _ => False)).alloc _).blk (fun h => h) ?_
    have := blk_new (w2.alloc (.cells #[.int .u64 i] 27)) (.cells #[.pointer (some ⟨g, 0, none⟩)] 23); rwa [World.size_alloc] at this
  have h7 : W2.heap[n1 + 2]? = some (.cells #[.int .u64 i] 27 (0, 0)) := by
    rw [← hW2, ← hn1]
    have := blk_new ((w2.alloc (.cells #[.int .u64 i] 27)).alloc (.cells #[.pointer (some ⟨g, 0, none⟩)] 23)) (.cells #[.int .u64 i] 27); rwa [World.size_alloc, World.size_alloc] at this
  have hFw : Below w.heap.size w W2 := below_then HB'.out HB'.out.size (hF2.below (fun _ h => h.elim))
  have hL2 := H.out.below hFw
  rw [hW2]
  have hS := back1 (M := fun k => k = n1) (i := i) h6 (by omega) h7 (by omega) hL2 (by omega) (fun k hk => by have := hk.2; omega) (by intro k h; omega) hlen
  have HI := Lib.hid (item_ok (G_mono hL2.l (fun k hk => hk.1)) i)
  have hbi := back_items W2 A st i
  have HL2 := Lib.hid hL2
  have HFw := Lib.hid hFw
  have H22 := Lib.hid (hF2.blk (fun h => h) H2'.out)
  have H23 := Lib.hid (hF2.blk (fun h => h) H3'.out)
  generalize hxs : (bk (itemAt W2 A st.l) st.l.length st.l.length).filter (upTo i) = xs at *
  have hR := HRR.out
  clear HRR
  generalize ht : (st.l.getD n z31).f1 = t at hR
  have HRR := Lib.hid hR
  clear hR
  refine named (fun a0 ha => ?_)
  refine (wpIn_wide (n := 9)).1 ?_
  refine range_law (gf := 51) (lb := #[.pointer (some ⟨n1 + 1, 0, none⟩), .pointer (some ⟨n1 + 2, 0, none⟩)]) (by rw [← ha]; simp [go_sem]) (enters_of Try.func51 (by kernel_rfl) rfl) hS (by intro k h; omega) (fun _ => rfl)
    (HintI n1 t i W2) (HintX n1 t i W2) (HintA n1 t i W2 a0) ?_ ?_ ?_ ?_ ?assign ?body ?done ?stop
  · rintro pre X Y ⟨h1, h2, h3⟩ hf
    exact ⟨h1, hf.blk (fun h => by have := h.1; omega) h2, h3.trans hf (fun k h => .inr h.1)⟩
  · rintro j pre X Y ⟨h1, ini, p, e1, e2, e3, h2, h3⟩ hf
    exact ⟨h1, ini, p, e1, e2, e3, hf.blk (fun h => by have := h.1; omega) h2, h3.trans hf (fun k h => .inr h.1)⟩
  · rintro pre x a X Y ⟨⟨h1, h2, h3⟩, Be, hE, h8⟩ hf
    exact ⟨⟨h1, hf.blk (fun h => by have := h.1; omega) h2, h3.trans hf (fun k h => .inr h.1)⟩, Be, hE.fr hf (fun k h => by have := h.2; omega), h8⟩
  · exact ⟨fun p h => (by cases h), h5, Fr.refl _ _⟩
  case assign =>
    rintro l2 pre x X hXs hpre ⟨h1, h2, h3⟩
    obtain ⟨⟨Ae, ce, hx, hlc, _⟩, _⟩ := HI.out x (hpre.subset (List.mem_append.2 (.inr (by simp))))
    obtain ⟨x0, x1, x2⟩ := x
    dsimp only at hx
    subst hx
    simp only [enc1]
    subst ha
    gi_wp2
    exact ⟨(Fr.refl _ _).alloc _, ⟨h1, ((Fr.refl X (fun _ => False)).alloc _).blk (fun h => h) h2, h3.alloc _⟩, X.heap.size, ⟨Ae, ce, by omega, rfl, World.alloc_heap_new _ _⟩, rfl⟩
  case body =>
    rintro l2 pre x a X hXs hpre ⟨⟨h1, h2, h3⟩, Be, ⟨Ae, ce, h5, h6, h7⟩, rfl⟩
    obtain ⟨x0, x1, x2⟩ := x
    dsimp only at h6
    subst h6
    dsimp only at h7
    obtain ⟨⟨cv, hbg, _⟩, hll⟩ := HL2.out
    obtain ⟨b, off, A4, c4, rfl, hokb, _, g1, _, _, _, _, _⟩ := G_ent hll n hnl
    have hsX := h3.size
    have ht' : st.l[n].f1 = t := by rw [← ht, List.getD_eq_getElem?_getD, List.getElem?_eq_getElem hnl, Option.getD_some]
    rw [ht'] at g1
    have hnb : b ≠ n1 := by have := hokb.1.2; omega
    have r0 := blk_cell (h3.blk (show ¬ g = n1 by omega) hbg) 0
    have r3 := blk_cell (h3.blk (show ¬ g = n1 by omega) hbg) 3
    have r1 := h3.cell (p := ⟨b, off + n * 5 + 1, none⟩) hnb g1
    have k2 := blk_cell (h3.blk (show ¬ w.heap.size = n1 by omega) H22.out) 0
    have k3 := blk_cell (h3.blk (show ¬ w.heap.size + 1 = n1 by omega) H23.out) 0
    have e1 := blk_cell h7 1
    simp only [List.getElem?_toArray, List.getElem?_cons_succ, List.getElem?_cons_zero] at r0 r3 r1 k2 k3 e1
    have q0 : IntKind.u64.wrap (i - st.index) = i - st.index := IntWalk.u64_in _ (by have := HLok.out.last1; rw [HLa.out] at this; dsimp only at this; omega)
    have q1 : IntKind.u64.wrap (i - st.index - 1) = n := (IntWalk.u64_in _ (by have := HLok.out.last1; rw [HLa.out] at this; dsimp only at this; omega)).trans hn
    have q2 : (0 : Int) ≤ n := by omega
    have q3 : (n : Int) < (st.l.length : Int) := by omega
    have HP := Lib.hid h1
    have H1 := Lib.hid h2
    have H3 := Lib.hid h3
    have H7 := Lib.hid h7
    have HS : ∀ w', Fr X w' (fun _ => False) → (fun w' => w'.cell? ⟨Be, 1, none⟩ = some (.int .u64 x1.f1) ∧ w'.cell? ⟨g, 3, none⟩ = some (.slice (some ⟨b, off, none⟩) st.l.length c) ∧ w'.cell? ⟨g, 0, none⟩ = some (.int .u64 st.index) ∧ w'.cell? ⟨w.heap.size, 0, none⟩ = some (.pointer (some ⟨g, 0, none⟩)) ∧ w'.cell? ⟨w.heap.size + 1, 0, none⟩ = some (.int .u64 i) ∧ w'.cell? ⟨b, off + n * 5 + 1, none⟩ = some (.int .u64 t)) w' := fun w' hf =>
      ⟨hf.cell (fun h => h) e1, hf.cell (fun h => h) r3, hf.cell (fun h => h) r0, hf.cell (fun h => h) k2, hf.cell (fun h => h) k3, hf.cell (fun h => h) r1⟩
    subst ha
    simp only [List.setIfInBounds_toArray, List.set_cons_zero, List.set_cons_succ]
    clear h1 h2 h3 h7 r0 r3 r1 k2 k3 e1 hbg hll hn g1 ht'
    gi_wp2
    refine startR_ (n := 17) (S := (fun w' => w'.cell? ⟨Be, 1, none⟩ = some (.int .u64 x1.f1) ∧ w'.cell? ⟨g, 3, none⟩ = some (.slice (some ⟨b, off, none⟩) st.l.length c) ∧ w'.cell? ⟨g, 0, none⟩ = some (.int .u64 st.index) ∧ w'.cell? ⟨w.heap.size, 0, none⟩ = some (.pointer (some ⟨g, 0, none⟩)) ∧ w'.cell? ⟨w.heap.size + 1, 0, none⟩ = some (.int .u64 i) ∧ w'.cell? ⟨b, off + n * 5 + 1, none⟩ = some (.int .u64 t))) (ds := []) #[false, false, false, false, false, false, false, false, false, false, false, false, false, false, false, false, false] (by kernel_rfl) (by rintro ⟨_, _, h⟩; exact h) (by kernel_rfl) rfl rfl (by exact HS _ (Fr.refl X _).drew) (fun hHeld => ?_)
    refine pure_ (i := 0) (N := some 41) (v := ?_) (a' := ?_) #[true, false, false, false, false, false, false, false, false, false, false, false, false, false, false, false, false] rfl rfl (by kernel_rfl) (fun _ _ _ h => h) (Or.inl ⟨by rfl, ?_⟩) ?_ ?_   -- fieldAddr
    rotate_left
    · intro w'
      go_simp
      with_reducible rfl
    rotate_left
    · simp only [Act.put, List.setIfInBounds_toArray, List.set_cons_zero, List.set_cons_succ]
      rfl
    refine take_ (i := 1) (N := some 42) (v := ?_) (a' := ?_) #[true, true, false, false, false, false, false, false, false, false, false, false, false, false, false, false, false] rfl rfl (by kernel_rfl) (fun _ _ _ h => h) (Or.inl ⟨by rfl, ?_⟩) hHeld ?_ ?_   -- Go.Op.load 27 (Go.Operand.tmp 41)
    rotate_left
    · rintro w' ⟨s0, s1, s2, s3, s4, s5⟩
      go_simp
      with_reducible rfl
    rotate_left
    · simp only [Act.put, List.setIfInBounds_toArray, List.set_cons_zero, List.set_cons_succ]
      rfl
    refine take_ (i := 2) (N := some 43) (v := ?_) (a' := ?_) #[true, true, true, false, false, false, false, false, false, false, false, false, false, false, false, false, false] rfl rfl (by kernel_rfl) (fun _ _ _ h => h) (Or.inl ⟨by rfl, ?_⟩) hHeld ?_ ?_   -- Go.Op.load 23 (Go.Operand.tmp 2)
    rotate_left
    · rintro w' ⟨s0, s1, s2, s3, s4, s5⟩
      go_simp
      with_reducible rfl
    rotate_left
    · simp only [Act.put, List.setIfInBounds_toArray, List.set_cons_zero, List.set_cons_succ]
      rfl
    refine pure_ (i := 3) (N := some 44) (v := ?_) (a' := ?_) #[true, true, true, true, false, false, false, false, false, false, false, false, false, false, false, false, false] rfl rfl (by kernel_rfl) (fun _ _ _ h => h) (Or.inl ⟨by rfl, ?_⟩) ?_ ?_   -- nilCheck
    rotate_left
    · intro w'
      go_simp
      with_reducible rfl
    rotate_left
    · simp only [Act.put, List.setIfInBounds_toArray, List.set_cons_zero, List.set_cons_succ]
      rfl
    refine pure_ (i := 4) (N := some 45) (v := ?_) (a' := ?_) #[true, true, true, true, true, false, false, false, false, false, false, false, false, false, false, false, false] rfl rfl (by kernel_rfl) (fun _ _ _ h => h) (Or.inl ⟨by rfl, ?_⟩) ?_ ?_   -- fieldAddr
    rotate_left
    · intro w'
      go_simp
      with_reducible rfl
    rotate_left
    · simp only [Act.put, List.setIfInBounds_toArray, List.set_cons_zero, List.set_cons_succ]
      rfl
    refine take_ (i := 5) (N := some 46) (v := ?_) (a' := ?_) #[true, true, true, true, true, true, false, false, false, false, false, false, false, false, false, false, false] rfl rfl (by kernel_rfl) (fun _ _ _ h => h) (Or.inl ⟨by rfl, ?_⟩) hHeld ?_ ?_   -- Go.Op.load 33 (Go.Operand.tmp 45)
    rotate_left
    · rintro w' ⟨s0, s1, s2, s3, s4, s5⟩
      go_simp
      with_reducible rfl
    rotate_left
    · simp only [Act.put, List.setIfInBounds_toArray, List.set_cons_zero, List.set_cons_succ]
      rfl
    refine take_ (i := 6) (N := some 47) (v := ?_) (a' := ?_) #[true, true, true, true, true, true, true, false, false, false, false, false, false, false, false, false, false] rfl rfl (by kernel_rfl) (fun _ _ _ h => h) (Or.inl ⟨by rfl, ?_⟩) hHeld ?_ ?_   -- Go.Op.load 27 (Go.Operand.tmp 3)
    rotate_left
    · rintro w' ⟨s0, s1, s2, s3, s4, s5⟩
      go_simp
      with_reducible rfl
    rotate_left
    · simp only [Act.put, List.setIfInBounds_toArray, List.set_cons_zero, List.set_cons_succ]
      rfl
    refine take_ (i := 7) (N := some 48) (v := ?_) (a' := ?_) #[true, true, true, true, true, true, true, true, false, false, false, false, false, false, false, false, false] rfl rfl (by kernel_rfl) (fun _ _ _ h => h) (Or.inl ⟨by rfl, ?_⟩) hHeld ?_ ?_   -- Go.Op.load 23 (Go.Operand.tmp 2)
    rotate_left
    · rintro w' ⟨s0, s1, s2, s3, s4, s5⟩
      go_simp
      with_reducible rfl
    rotate_left
    · simp only [Act.put, List.setIfInBounds_toArray, List.set_cons_zero, List.set_cons_succ]
      rfl
    refine pure_ (i := 8) (N := some 49) (v := ?_) (a' := ?_) #[true, true, true, true, true, true, true, true, true, false, false, false, false, false, false, false, false] rfl rfl (by kernel_rfl) (fun _ _ _ h => h) (Or.inl ⟨by rfl, ?_⟩) ?_ ?_   -- nilCheck
    rotate_left
    · intro w'
      go_simp
      with_reducible rfl
    rotate_left
    · simp only [Act.put, List.setIfInBounds_toArray, List.set_cons_zero, List.set_cons_succ]
      rfl
    refine pure_ (i := 9) (N := some 50) (v := ?_) (a' := ?_) #[true, true, true, true, true, true, true, true, true, true, false, false, false, false, false, false, false] rfl rfl (by kernel_rfl) (fun _ _ _ h => h) (Or.inl ⟨by rfl, ?_⟩) ?_ ?_   -- fieldAddr
    rotate_left
    · intro w'
      go_simp
      with_reducible rfl
    rotate_left
    · simp only [Act.put, List.setIfInBounds_toArray, List.set_cons_zero, List.set_cons_succ]
      rfl
    refine take_ (i := 10) (N := some 51) (v := ?_) (a' := ?_) #[true, true, true, true, true, true, true, true, true, true, true, false, false, false, false, false, false] rfl rfl (by kernel_rfl) (fun _ _ _ h => h) (Or.inl ⟨by rfl, ?_⟩) hHeld ?_ ?_   -- Go.Op.load 27 (Go.Operand.tmp 50)
    rotate_left
    · rintro w' ⟨s0, s1, s2, s3, s4, s5⟩
      go_simp
      with_reducible rfl
    rotate_left
    · simp only [Act.put, List.setIfInBounds_toArray, List.set_cons_zero, List.set_cons_succ]
      rfl
    refine pure_ (i := 11) (N := some 52) (v := ?_) (a' := ?_) #[true, true, true, true, true, true, true, true, true, true, true, true, false, false, false, false, false] rfl rfl (by kernel_rfl) (fun _ _ _ h => h) (Or.inl ⟨by rfl, ?_⟩) ?_ ?_   -- binOp
    rotate_left
    · intro w'
      go_simp
      with_reducible rfl
    rotate_left
    · simp only [Act.put, List.setIfInBounds_toArray, List.set_cons_zero, List.set_cons_succ]
      rfl
    refine pure_ (i := 12) (N := some 53) (v := ?_) (a' := ?_) #[true, true, true, true, true, true, true, true, true, true, true, true, true, false, false, false, false] rfl rfl (by kernel_rfl) (fun _ _ _ h => h) (Or.inl ⟨by rfl, ?_⟩) ?_ ?_   -- binOp
    rotate_left
    · intro w'
      go_simp
      with_reducible rfl
    rotate_left
    · simp only [Act.put, List.setIfInBounds_toArray, List.set_cons_zero, List.set_cons_succ]
      rfl
    refine pure_ (i := 13) (N := some 54) (v := ?_) (a' := ?_) #[true, true, true, true, true, true, true, true, true, true, true, true, true, true, false, false, false] rfl rfl (by kernel_rfl) (fun _ _ _ h => h) (Or.inl ⟨by rfl, ?_⟩) ?_ ?_   -- indexAddr
    rotate_left
    · intro w'
      go_simp
      with_reducible rfl
    rotate_left
    · simp only [Act.put, List.setIfInBounds_toArray, List.set_cons_zero, List.set_cons_succ]
      rfl
    refine pure_ (i := 14) (N := some 55) (v := ?_) (a' := ?_) #[true, true, true, true, true, true, true, true, true, true, true, true, true, true, true, false, false] rfl rfl (by kernel_rfl) (fun _ _ _ h => h) (Or.inl ⟨by rfl, ?_⟩) ?_ ?_   -- fieldAddr
    rotate_left
    · intro w'
      go_simp
      with_reducible rfl
    rotate_left
    · simp only [Act.put, List.setIfInBounds_toArray, List.set_cons_zero, List.set_cons_succ]
      rfl
    refine take_ (i := 15) (N := some 56) (v := ?_) (a' := ?_) #[true, true, true, true, true, true, true, true, true, true, true, true, true, true, true, true, false] rfl rfl (by kernel_rfl) (fun _ _ _ h => h) (Or.inl ⟨by rfl, ?_⟩) hHeld ?_ ?_   -- Go.Op.load 27 (Go.Operand.tmp 55)
    rotate_left
    · rintro w' ⟨s0, s1, s2, s3, s4, s5⟩
      go_simp
      with_reducible rfl
    rotate_left
    · simp only [Act.put, List.setIfInBounds_toArray, List.set_cons_zero, List.set_cons_succ]
      rfl
    refine pure_ (i := 16) (N := some 57) (v := ?_) (a' := ?_) #[true, true, true, true, true, true, true, true, true, true, true, true, true, true, true, true, true] rfl rfl (by kernel_rfl) (fun _ _ _ h => h) (Or.inl ⟨by rfl, ?_⟩) ?_ ?_   -- binOp
    rotate_left
    · intro w'
      go_simp
      with_reducible rfl
    rotate_left
    · simp only [Act.put, List.setIfInBounds_toArray, List.set_cons_zero, List.set_cons_succ]
      rfl
    refine done_ (by kernel_rfl) ?_
    have HXd : Fr X X.drew (fun _ => False) := (Fr.refl _ _).drew
    have H1' := Lib.hid (HXd.blk (fun h => h) H1.out)
    have e0 := blk_cell (HXd.blk (fun h => h) H7.out) 0
    have w0 := blk_cell H1'.out 0
    have w1 := blk_frozen H1'.out 0
    simp only [List.getElem?_toArray, List.getElem?_cons_zero] at e0 w0
    have HXD := Lib.hid HXd
    clear HS hHeld HXd
    generalize X.drew = Y at *
    by_cases hk : x1.f1 = t
    · have hk' : (x1.f1 != t) = false := by simpa using hk
      rw [hk']
      gi_wp2
      have hF : Fr X (Y.setCell ⟨n1, 0, none⟩ (.int .u64 x1.f0)) (fun k => k = n1) := Fr.setCell (S := fun k => k = n1) (HXD.out.mono (fun _ _ h => h.elim)) (p := ⟨n1, 0, none⟩) (.inl rfl) _
      refine ⟨hF, fun p hp => (List.mem_append.1 hp).elim (HP.out p) (fun e => by rw [List.mem_singleton.1 e]; exact hk), ?_, H3.out.trans hF (fun _ h => .inl h)⟩
      rw [atOf_snoc]
      simpa using blk_set H1'.out 0 (.int .u64 x1.f0)
    · have hk' : (x1.f1 != t) = true := by simpa using hk
      rw [hk']
      gi_wp2
      exact ⟨HXD.out.mono (fun _ _ h => h.elim), rfl, pre, _, rfl, HP.out, hk, H1'.out, H3.out.trans HXD.out (fun _ h => h.elim)⟩
  case done =>
    rintro X ⟨h1, h2, h3⟩ hK
    subst ha
    have w0 := blk_cell h2 0
    simp only [List.getElem?_toArray, List.getElem?_cons_zero] at w0
    gi_wp2
    go_wp2_with fail
    refine ⟨by simp, .inl ⟨_, _, rfl, run_takeDeferred hK, ?_⟩⟩
    have hfin : (match ((st.back i).takeWhile (fun e => decide (e.f1 = t))).getLast? with | none => i | some e => e.f0) = atOf i xs := by
      rw [← hbi, takeWhile_all ?_]
      · simp only [atOf, List.getLast?_map]
        cases xs.getLast? <;> rfl
      · intro e he
        obtain ⟨p, hp, rfl⟩ := List.mem_map.1 he
        simpa using h1 p hp
    rw [← HRR.out, hfin]
    have hlast : Fr X (X.putObj W2.heap.size (.deferred none)) (fun k => k = W2.heap.size) := Fr.putObj (S := fun k => k = W2.heap.size) (Fr.refl _ _) (.inl rfl) _
    refine ⟨_, ?_, rfl, ?_⟩
    · simp [results, Try.f33, go_sem]
    · exact ((((Fr.of_below HFw.out (fun _ => False)).trans h3 (fun k h => .inr (by omega))).trans hlast (fun k h => .inr (by omega))).below (fun k hk => hk.elim))
  case stop =>
    rintro j pre X hpre ⟨rfl, ini, p, e1, e2, e3, h2, h3⟩ hK
    subst ha
    have w0 := blk_cell h2 0
    simp only [List.getElem?_toArray, List.getElem?_cons_zero] at w0
    gi_wp2
    go_wp2_with fail
    refine ⟨by simp, .inl ⟨_, _, rfl, run_takeDeferred hK, ?_⟩⟩
    have hfin : (match ((st.back i).takeWhile (fun e => decide (e.f1 = t))).getLast? with | none => i | some e => e.f0) = atOf i ini := by
      have hpre' := hpre.map (fun p : Item => p.2.1)
      rw [hbi, e1] at hpre'
      obtain ⟨r, hr⟩ := hpre'
      rw [← hr, List.map_append, List.append_assoc, List.takeWhile_append_of_pos ?_]
      · rw [List.map_singleton, List.singleton_append, List.takeWhile_cons_of_neg (by simpa using e3), List.append_nil]
        simp only [atOf, List.getLast?_map]
        cases ini.getLast? <;> rfl
      · intro e he
        obtain ⟨p, hp, rfl⟩ := List.mem_map.1 he
        simpa using e2 p hp
    rw [← HRR.out, hfin]
    have hlast : Fr X (X.putObj W2.heap.size (.deferred none)) (fun k => k = W2.heap.size) := Fr.putObj (S := fun k => k = W2.heap.size) (Fr.refl _ _) (.inl rfl) _
    refine ⟨_, ?_, rfl, ?_⟩
    · simp [results, Try.f33, go_sem]
    · exact ((((Fr.of_below HFw.out (fun _ => False)).trans h3 (fun k h => .inr (by omega))).trans hlast (fun k h => .inr (by omega))).below (fun k hk => hk.elim))

theorem hint_any {g : Nat} {w : World} {ok : Nat → Prop} {lv : Value} {st : LS} (h : IsL 70 g w ok lv st) (hok : LSok st) (i : Int) :
    Calls Try.prog 33 #[.pointer (some ⟨g, 0, none⟩), .int .u64 i] w fun e w' => e = .returned (.int .u64 (st.hint i)) ∧ Below w.heap.size w w' := by
  by_cases h1 : st.last.1 < i
  · rw [LS.hint, if_pos h1]; exact hint_far h hok i h1
  by_cases h2 : i ≤ st.index
  · rw [LS.hint, if_neg h1, if_pos h2]; exact hint_low h hok i h1 h2
  · exact hint_in h hok i h1 h2
end Go.Proofs.Ytpnmodkddiljeaa
