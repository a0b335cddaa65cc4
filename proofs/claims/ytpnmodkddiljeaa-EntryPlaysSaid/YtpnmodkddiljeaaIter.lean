/- The iterators: slices.Backward over a log's entries; back. Conditions: what the caller's rounds write is none of the rows' blocks. -/
import Derived.Test.YtpnmodkddiljeaaRange
import Derived.Test.YtpnmodkddiljeaaAppend
import Derived.OwnWalkIn
import Derived.TacticsInMore
import Derived.LoopNIn
import Derived.LoopIn
import Derived.Shelf.Abstract
namespace Go.Proofs.Ytpnmodkddiljeaa
open Go.RowKit Go.Proofs.YtpnmodkddiljeaaW.PrintWords PEntryPlays Go.Shelf
attribute [local go_sem] Oper.semAt_some

theorem roundIn_wide {n m : Nat} {P : Program} {l : Nat} {f : FuncId} {tmps : Array Value} {assign body : Code} {w : World} {R : Ending → World → Prop} (h : RoundIn Fence.wide n P l f tmps assign body w R) : RoundIn Fence.wide m P l f tmps assign body w R :=
  ⟨h.1, fun c cs _ => h.2 c cs (room_wide _)⟩

def bk {α : Type} (f : Nat → α) (n k : Nat) : List α := (List.range k).map (fun i => f (n - 1 - i))
theorem bk_succ {α : Type} (f : Nat → α) (n k : Nat) : bk f n (k + 1) = bk f n k ++ [f (n - 1 - k)] := by simp [bk, List.range_succ]
theorem bk_length {α : Type} (f : Nat → α) (n k : Nat) : (bk f n k).length = k := by simp [bk]
theorem bk_prefix {α : Type} (f : Nat → α) (n k m : Nat) (hk : k ≤ m) : bk f n k <+: bk f n m := by
  obtain ⟨d, rfl⟩ : ∃ d, m = k + d := ⟨m - k, by omega⟩
  rw [bk, bk, List.range_add, List.map_append]
  exact List.prefix_append _ _

abbrev Item := Int × S31 × Value
def enc2 (p : Item) : Array Value := #[.int .i64 p.1, entV p.2.1 p.2.2]
/-- The value that stands for an entry's conf. -/
def cvAt (w : World) (A : Option Addr) (j : Nat) : Value := match A with | some ad => (w.cell? (ad.add (j * 5 + 4))).getD undef | none => undef
def itemAt (w : World) (A : Option Addr) (xs : List S31) (j : Nat) : Item := (j, xs.getD j z31, cvAt w A j)

set_option maxRecDepth 100000 in
set_option maxHeartbeats 1000000 in
theorem backward1 {Bs : Nat} {A : Option Addr} {c : Nat} {xs : List S31} {w : World} {ok M : Nat → Prop} (hB : w.heap[Bs]? = some (.cells #[.slice A xs.length c] 33 (0, 0))) (hBM : ¬ M Bs)
    (hG : G k31 31 w ok (.slice A xs.length c) xs) (hM : ∀ k, ok k → ¬ M k) (hlen : xs.length ≤ 4096) :
    SeqC Try.prog 53 #[.pointer (some ⟨Bs, 0, none⟩)] enc2 (bk (itemAt w A xs) xs.length xs.length) 0 M w := by
  intro l J Jx W hW hl1 hl2 hJ hJx hY h0
  have hBl := blk_lt hB
  have HB := Lib.hid hB
  have HG := Lib.hid (G_bound hG)
  generalize hn : xs.length = n at *
  have HW0 : (∀ wr, Fr w wr (fun k => M k ∨ k = l) → wr.heap[Bs]? = some (.cells #[.slice A n c] 33 (0, 0)) ∧ (∀ j, j < n → ∃ b off A4 c4, A = some ⟨b, off, none⟩ ∧ itemAt w A xs j = ((j : Int), xs.getD j z31, .slice A4 (xs.getD j z31).f4.length c4) ∧
      wr.cell? ⟨b, off + j * 5, none⟩ = some (.int .u64 (xs.getD j z31).f0) ∧ wr.cell? ⟨b, off + j * 5 + 1, none⟩ = some (.int .u64 (xs.getD j z31).f1) ∧ wr.cell? ⟨b, off + j * 5 + 2, none⟩ = some (.int .u8 (xs.getD j z31).f2) ∧
      wr.cell? ⟨b, off + j * 5 + 3, none⟩ = some (.string (xs.getD j z31).f3) ∧ wr.cell? ⟨b, off + j * 5 + 4, none⟩ = some (.slice A4 (xs.getD j z31).f4.length c4))) := by
    refine (fun wr hf => ⟨hf.blk (by rintro (h | h); exact hBM h; omega) HB.out, fun j hj => ?_⟩)
    obtain ⟨b, off, A4, c4, rfl, ⟨hokb, hbl⟩, e0, e1, e2, e3, e4, _, _⟩ := G_ent HG.out j (by omega)
    have hnb : ¬ (M b ∨ b = l) := by rintro (h | h); exact hM _ hokb h; omega
    have hx : xs.getD j z31 = xs[j] := by rw [List.getD_eq_getElem?_getD, List.getElem?_eq_getElem (by omega), Option.getD_some]
    rw [hx]
    refine ⟨b, off, A4, c4, rfl, ?_, hf.cell hnb e0, hf.cell hnb e1, hf.cell hnb e2, hf.cell hnb e3, hf.cell hnb e4⟩
    rw [itemAt, hx, cvAt]
    simp only [Addr.add, ← Nat.add_assoc]
    rw [if_neg (by omega)]
    rw [e4, Option.getD_some]
  have HW := Lib.hid HW0
  have HY := Lib.hid hY
  generalize hf : itemAt w A xs = f at *
  clear hB hG HG hf HW0 hY hJ hJx
  have hb0 := blk_cell (HW.out _ (Fr.mono hW (fun _ _ h => .inl h))).1
  refine callsIn_of_wp Try.func53 rfl trivial ?_ rfl
  simp only [Try.ntmps53, List.size_toArray, List.length_cons, List.length_nil, Nat.reduceAdd, Nat.reduceSub, Array.replicate_succ, Array.replicate_zero, List.push_toArray, List.append_toArray, List.nil_append, List.cons_append]
  have q0 : IntKind.i64.wrap ((n : Int) - 1) = n - 1 := IntWalk.i64_in _ (by omega)
  gi_wp2
  gi_loopw [3] (fun i wr => ∃ k : Nat, k ≤ n ∧ i = .int .i64 ((n : Int) - 1 - k) ∧ J (bk f n k) wr ∧ Fr w wr (fun k => M k ∨ k = l) ∧ W.heap.size ≤ wr.heap.size)
    (fun i _ => ((intOf i) + 1).toNat)
  case atStart => exact ⟨0, Nat.zero_le _, by simp, h0, Fr.mono hW (fun _ _ h => .inl h), Nat.le_refl _⟩
  case round =>
    obtain ⟨k, hk, rfl, hJs, hnx, hsz⟩ := hrel
    have hb1 := blk_cell (HW.out _ hnx).1
    by_cases hlt : k < n
    · obtain ⟨j, hj⟩ : ∃ j : Nat, j = n - 1 - k := ⟨_, rfl⟩
      obtain ⟨b, off, A4, c4, rfl, hit, e0, e1, e2, e3, e4⟩ := (HW.out _ hnx).2 j (by omega)
      have hsucc : bk f n (k + 1) = bk f n k ++ [f j] := by rw [hj]; exact bk_succ _ _ _
      have hY1 := HY.out _ (f j) wr hJs (by rw [← hsucc]; exact bk_prefix _ _ _ _ (by omega)) (by omega)
      rw [← hsucc] at hY1
      rw [hit] at hY1
      simp only [enc2, entV] at hY1
      obtain ⟨fn, tmps, assign, body, hy, hR⟩ := hY1
      generalize xs.getD j z31 = x at *
      have hji : (n : Int) - 1 - k = (j : Int) := by omega
      have q1 : (0 : Int) ≤ j := by omega
      have q2 : (j : Int) < n := by omega
      have q3 : IntKind.i64.wrap ((j : Int) - 1) = n - 1 - (k + 1 : Nat) := IntWalk.i64_in _ (by omega) |>.trans (by omega)
      rw [hji]
      have HJ := Lib.hid hj
      clear hj hji
      gi_wp2
      refine (roundIn_wide hR).mono ?_
      rintro e W3 (⟨rfl, hJ3, hk3⟩ | ⟨rfl, hJx3, hk3⟩)
      · gi_wp2
        go_roundw
        case rel => exact ⟨k + 1, by omega, rfl, hJ3, hnx.trans hk3 (fun _ h => .inl h), by have := hk3.size; omega⟩
        case measure => have hj := HJ.out; simp [intOf]; omega
      · gi_wp2
        refine bodyPost_ret (results_none rfl _ _ _) rfl ?_
        exact ⟨⟨_, rfl⟩, .inr ⟨_, bk_prefix _ _ _ _ (by omega), hJx3⟩⟩
    · obtain rfl : k = n := by omega
      have hji : ((k : Int) - 1 - k) = -1 := by omega
      rw [hji]
      gi_wp2
      go_end0
      exact ⟨⟨_, rfl⟩, .inl hJs⟩

set_option maxHeartbeats 400000 in
theorem backward_any (A : Option Addr) (n c : Nat) (w : World) :
    Calls Try.prog 52 #[.slice A n c] w fun e w' => e = .returned (.func (.func 53) #[] #[.pointer (some ⟨w.heap.size, 0, none⟩)]) ∧ w' = w.alloc (.cells #[.slice A n c] 33) := by
  go_enter Try.func52, Try.ntmps52
  go_wp2
  go_ret
  exact ⟨rfl, rfl⟩

set_option maxHeartbeats 400000 in
theorem back_any (p : Option Addr) (i : Int) (w : World) :
    Calls Try.prog 49 #[.pointer p, .int .u64 i] w fun e w' => e = .returned (.func (.func 51) #[] #[.pointer (some ⟨w.heap.size, 0, none⟩), .pointer (some ⟨w.heap.size + 1, 0, none⟩)]) ∧ w' = (w.alloc (.cells #[.pointer p] 23)).alloc (.cells #[.int .u64 i] 27) := by
  go_enter Try.func49, Try.ntmps49
  go_wp2
  go_ret
  exact ⟨rfl, rfl⟩

theorem filter_snoc {α : Type} (p : α → Bool) (l : List α) (x : α) : (l ++ [x]).filter p = if p x then l.filter p ++ [x] else l.filter p := by
  cases h : p x <;> simp [h]
def upTo (i : Int) (p : Item) : Bool := decide (p.2.1.f0 ≤ i)
def enc1 (p : Item) : Array Value := #[entV p.2.1 p.2.2]

set_option maxRecDepth 100000 in
set_option maxHeartbeats 1000000 in
theorem back1 {Bl Bi g : Nat} {A : Option Addr} {c : Nat} {st : LS} {i : Int} {w : World} {ok M : Nat → Prop} (hBl : w.heap[Bl]? = some (.cells #[.pointer (some ⟨g, 0, none⟩)] 23 (0, 0))) (hBlM : ¬ M Bl)
    (hBi : w.heap[Bi]? = some (.cells #[.int .u64 i] 27 (0, 0))) (hBiM : ¬ M Bi) (h : IsL 70 g w ok (.slice A st.l.length c) st) (hgM : ¬ M g) (hM : ∀ k, ok k → ¬ M k) (hMs : ∀ k, M k → k < w.heap.size) (hlen : st.l.length ≤ 4096) :
    SeqC Try.prog 51 #[.pointer (some ⟨Bl, 0, none⟩), .pointer (some ⟨Bi, 0, none⟩)] enc1 ((bk (itemAt w A st.l) st.l.length st.l.length).filter (upTo i)) 4 M w := by
  intro l J Jx W hW hl1 hl2 hJ hJx hY h0
  have hBll := blk_lt hBl
  have hBil := blk_lt hBi
  have hgl := h.lt
  have HY := Lib.hid hY
  have HJ := Lib.hid hJ
  have HJx := Lib.hid hJx
  have HH := Lib.hid h
  obtain ⟨⟨cv, hb, _⟩, hG⟩ := h
  have HB := Lib.hid hb
  have hG' := G_bound (G_mono hG (ok' := ok) (fun k hk => hk.1))
  have HG := Lib.hid hG'
  have HBl := Lib.hid hBl
  have HBi := Lib.hid hBi
  have HW := Lib.hid hW
  have c0 := fun o => blk_cell ((hW.alloc o).blk hBlM hBl) 0
  have c1 := fun o => blk_cell ((hW.alloc o).blk hgM hb) 3
  simp only [List.getElem?_toArray, List.getElem?_cons_succ, List.getElem?_cons_zero] at c0 c1
  clear hBl hBi hb hG hG' hY hJ hJx hW
  refine callsIn_of_wp_marks Try.func51 rfl trivial ?_ rfl
  simp only [Try.ntmps51, List.size_toArray, List.length_cons, List.length_nil, Nat.reduceAdd, Nat.reduceSub, Array.replicate_succ, Array.replicate_zero, List.push_toArray, List.append_toArray, List.nil_append, List.cons_append]
  gi_wp2
  refine ⟨trivial, (callsIn_wide.2 (backward_any _ _ _ _)).mono ?_⟩
  rintro e w' ⟨rfl, rfl⟩
  gi_wp2
  obtain ⟨W2, hW2⟩ : ∃ W2, (W.alloc (.cells #[.func (.yield l) #[] #[]] 71)).alloc (.cells #[.slice A st.l.length c] 33) = W2 := ⟨_, rfl⟩
  have hsz : W2.heap.size = W.heap.size + 2 := by rw [← hW2]; simp
  have hF2 : Fr W W2 (fun _ => False) := by rw [← hW2]; exact ((Fr.refl W _).alloc _).alloc _
  have hy2 : W2.heap[W.heap.size]? = some (.cells #[.func (.yield l) #[] #[]] 71 (0, 0)) := by
    rw [← hW2]; exact (Below.heap_alloc _ _ _ (by simp)).trans (World.alloc_heap_new _ _)
  have hs2 : W2.heap[W.heap.size + 1]? = some (.cells #[.slice A st.l.length c] 33 (0, 0)) := by
    rw [← hW2]; have := World.alloc_heap_new (W.alloc (.cells #[.func (.yield l) #[] #[]] 71)) (.cells #[.slice A st.l.length c] 33); rwa [World.size_alloc] at this
  have hwW := HW.out.size
  have hFw : Fr w W2 M := HW.out.trans hF2 (fun _ h => h.elim)
  have hgx : ∀ k, (ok k ∧ k < w.heap.size) → ¬ (M k ∨ k = l) := by rintro k ⟨h1, h2⟩ (h3 | h3); exact hM _ h1 h3; omega
  have hit : bk (itemAt W2 A st.l) st.l.length st.l.length = bk (itemAt w A st.l) st.l.length st.l.length := by
    refine List.map_congr_left (fun k hk => ?_)
    have hk := List.mem_range.1 hk
    obtain ⟨b, off, A4, c4, rfl, ⟨hokb, hbl⟩, e0, e1, e2, e3, e4, _, _⟩ := G_ent HG.out (st.l.length - 1 - k) (by omega)
    have e4' := hFw.cell (hM _ hokb) e4
    unfold itemAt
    simp only [cvAt, Addr.add, ← Nat.add_assoc]
    rw [if_neg (by omega), e4, e4']
  have HI := Lib.hid (show ∀ x, x ∈ bk (itemAt w A st.l) st.l.length st.l.length → ∃ Ae ce, x.2.2 = .slice Ae x.2.1.f4.length ce from fun x hx => by
    obtain ⟨k, hk, rfl⟩ := List.mem_map.1 hx
    have hk := List.mem_range.1 hk
    obtain ⟨b, off, A4, c4, rfl, ⟨hokb, hbl⟩, e0, e1, e2, e3, e4, _, _⟩ := G_ent HG.out (st.l.length - 1 - k) (by omega)
    refine ⟨A4, c4, ?_⟩
    unfold itemAt
    simp only [cvAt, Addr.add, ← Nat.add_assoc]
    rw [if_neg (by omega), e4, List.getD_eq_getElem?_getD, List.getElem?_eq_getElem (by omega)]
    rfl)
  have hS := backward1 (M := fun k => M k ∨ k = l) hs2 (by rintro (h | h); have := hMs _ h; omega; omega) (G_fr HG.out hFw (fun k hk h => hM k hk.1 h)) hgx hlen
  rw [hit] at hS
  clear c0 c1
  rw [hW2]
  refine range_law (gf := 53) (lb := #[.pointer (some ⟨W.heap.size + 1, 0, none⟩)]) (by simp [go_sem]) (enters_of Try.func53 (by kernel_rfl) rfl) hS (by rintro k (h | h); have := hMs _ h; omega; omega) (fun _ => rfl)
    (fun pre X => J (pre.filter (upTo i)) X ∧ X.heap[W.heap.size]? = some (.cells #[.func (.yield l) #[] #[]] 71 (0, 0)) ∧ Fr w X (fun k => M k ∨ k = l))
    (fun j pre X => j = .ret ∧ Jx (pre.filter (upTo i)) X)
    (fun pre p a₁ X => J (pre.filter (upTo i)) X ∧ X.heap[W.heap.size]? = some (.cells #[.func (.yield l) #[] #[]] 71 (0, 0)) ∧ Fr w X (fun k => M k ∨ k = l) ∧ ∃ Be Ae ce, W.heap.size + 4 ≤ Be ∧ p.2.2 = .slice Ae p.2.1.f4.length ce ∧
      X.heap[Be]? = some (.cells #[.int .u64 p.2.1.f0, .int .u64 p.2.1.f1, .int .u8 p.2.1.f2, .string p.2.1.f3, .slice Ae p.2.1.f4.length ce] 31 (0, 0)) ∧
      a₁ = { tmps := #[.func (.yield l) #[] #[], .pointer (some ⟨Bl, 0, none⟩), .pointer (some ⟨Bi, 0, none⟩), .pointer (some ⟨W.heap.size, 0, none⟩), undef, .pointer (some ⟨Be, 0, none⟩), .pointer (some ⟨g, 0, none⟩), .pointer (some ⟨g, 0, none⟩),
        .pointer (some ⟨g, 3, none⟩), .slice A st.l.length c, .func (.func 53) #[] #[.pointer (some ⟨W.heap.size + 1, 0, none⟩)], .int .i64 p.1, entV p.2.1 p.2.2, undef, undef, undef, undef, undef, undef, undef, undef, undef, undef], defers := [] }) ?_ ?_ ?_ ?_ ?assign ?body ?done ?stop
  · rintro pre X Y ⟨h1, h2, h3⟩ hf
    exact ⟨HJ.out _ _ _ h1 (hf.mono (fun k _ h => ⟨by have := h.1; omega, by have := h.2; omega⟩)), hf.blk (fun h => by have := h.1; omega) h2, h3.trans hf (fun k h => .inr (by have := h.1; omega))⟩
  · rintro j pre X Y ⟨h1, h2⟩ hf
    exact ⟨h1, HJx.out _ _ _ h2 (hf.mono (fun k _ h => ⟨by have := h.1; omega, by have := h.2; omega⟩))⟩
  · rintro pre x a X Y ⟨h1, h2, h3, Be, Ae, ce, h4, h5, h6, h7⟩ hf
    exact ⟨HJ.out _ _ _ h1 (hf.mono (fun k _ h => ⟨by have := h.1; omega, by have := h.2; omega⟩)), hf.blk (fun h => by have := h.1; omega) h2, h3.trans hf (fun k h => .inr (by have := h.1; omega)), Be, Ae, ce, h4, h5, hf.blk (fun h => by have := h.2; omega) h6, h7⟩
  · exact ⟨HJ.out _ _ _ h0 (hF2.mono (fun k _ h => h.elim)), hy2, hFw.mono (fun k _ h => .inl h)⟩
  case assign =>
    rintro l2 pre x X hXs hpre ⟨h1, h2, h3⟩
    obtain ⟨Ae, ce, hx⟩ := HI.out x (hpre.subset (List.mem_append.2 (.inr (by simp))))
    obtain ⟨x0, x1, x2⟩ := x
    dsimp only at hx
    subst hx
    simp only [enc2]
    gi_wp2
    exact ⟨(Fr.refl _ _).alloc _, HJ.out _ _ _ h1 ((Fr.refl _ _).alloc _), ((Fr.refl X (fun _ => False)).alloc _).blk (fun h => h) h2, h3.alloc _, X.heap.size, Ae, ce, by omega, rfl, World.alloc_heap_new _ _, rfl⟩
  case body =>
    rintro l2 pre x a X hXs hpre ⟨h1, h2, h3, Be, Ae, ce, h4, h5, h6, rfl⟩
    have e0 := blk_cell h6 0
    have e1 := blk_cell h6 1
    have e2 := blk_cell h6 2
    have e3 := blk_cell h6 3
    have e4 := blk_cell h6 4
    have f0 := blk_cell h2 0
    have f1 := blk_cell (h3.blk (by rintro (h | h); exact hBiM h; omega) HBi.out) 0
    simp only [List.getElem?_toArray, List.getElem?_cons_succ, List.getElem?_cons_zero] at e0 e1 e2 e3 e4 f0 f1
    have H3 := Lib.hid h3
    have HB2 := Lib.hid h2
    obtain ⟨x0, x1, x2⟩ := x
    dsimp only at h5 e0 e1 e2 e3 e4
    subst h5
    have HF := Lib.hid (hpre.filter (upTo i))
    rw [filter_snoc] at HF
    clear h2 h3 h6
    by_cases hi : x1.f0 ≤ i
    · have hu : upTo i (x0, x1, .slice Ae x1.f4.length ce) = true := by simpa [upTo] using hi
      rw [if_pos hu] at HF
      have hY1 := HY.out _ _ X h1 HF.out (by omega)
      simp only [enc1, entV] at hY1
      obtain ⟨fn, tmps, assign, body, hy, hR⟩ := hY1
      clear h1 HF
      gi_wp2
      refine RoundIn.mono (F := Fence.wide) (roundIn_wide hR) ?_
      rintro e W3 (⟨rfl, hJ3, hk3⟩ | ⟨rfl, hJx3, hk3⟩)
      · gi_wp2
        refine ⟨hk3, ?_, ?_, ?_⟩
        · rw [filter_snoc, if_pos hu]; exact hJ3
        · exact hk3.blk (by rintro (h | h); have := hMs _ h; omega; omega) HB2.out
        · exact H3.out.trans hk3 (fun _ h => .inl h)
      · gi_wp2
        exact ⟨hk3, rfl, by rw [filter_snoc, if_pos hu]; exact hJx3⟩
    · have hu : ¬ (upTo i (x0, x1, .slice Ae x1.f4.length ce) = true) := by simpa [upTo] using hi
      clear HF
      gi_wp2
      refine ⟨fun _ h => (by cases h), ?_⟩
      gi_wp2
      refine ⟨Fr.refl _ _, ?_, HB2.out, H3.out⟩
      rw [filter_snoc, if_neg hu]; exact h1
  case done =>
    rintro X ⟨h1, h2, h3⟩ hK
    gi_wp2
    refine ⟨by simp, .inl ⟨_, _, rfl, run_takeDeferred hK, ?_⟩⟩
    refine ⟨_, results_none rfl _ _ _, ⟨_, rfl⟩, .inl (HJ.out _ _ _ h1 ((Fr.refl _ _).putObj (.inl ⟨by omega, by omega⟩) _))⟩
  case stop =>
    rintro j pre X hpre ⟨rfl, h1⟩ hK
    gi_wp2
    refine ⟨by simp, .inl ⟨_, _, rfl, run_takeDeferred hK, ?_⟩⟩
    refine ⟨_, results_none rfl _ _ _, ⟨_, rfl⟩, .inr ⟨_, hpre.filter _, HJx.out _ _ _ h1 ((Fr.refl _ _).putObj (.inl ⟨by omega, by omega⟩) _)⟩⟩
end Go.Proofs.Ytpnmodkddiljeaa
