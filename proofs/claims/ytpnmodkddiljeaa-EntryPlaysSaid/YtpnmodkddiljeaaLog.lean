/- A log in memory (both the program's and the document's), and what is read of it. No conditions. -/
import Derived.Test.YtpnmodkddiljeaaOwn
namespace Go.Proofs.Ytpnmodkddiljeaa
open Go.RowKit Go.Proofs.YtpnmodkddiljeaaW.PrintWords PEntryPlays

/-- A row that is only read, as a value. -/
def RV {α : Type} (d : Kd α) (w : World) (ok : Nat → Prop) (v : Value) (xs : List α) : Prop := ∃ A c, v = .slice A xs.length c ∧ xs.length ≤ c ∧ Kd.F d w ok A xs.length xs
section
variable {α : Type} {d : Kd α} {e : Nat} {w w1 : World} {ok ok' S : Nat → Prop} {v : Value} {xs : List α}
theorem RV_mono (h : RV d w ok v xs) (hok : ∀ k, ok k → ok' k) : RV d w ok' v xs := by obtain ⟨A, c, e, l, f⟩ := h; exact ⟨A, c, e, l, Kd.F_mono f hok⟩
theorem RV_bound (h : RV d w ok v xs) : RV d w (fun k => ok k ∧ k < w.heap.size) v xs := by obtain ⟨A, c, e, l, f⟩ := h; exact ⟨A, c, e, l, Kd.F_bound f⟩
theorem RV_step (h : RV d w ok v xs) (hm : ∀ k, ok k → k < w.heap.size → w1.heap[k]? = w.heap[k]?) : RV d w1 ok v xs := by obtain ⟨A, c, e, l, f⟩ := h; exact ⟨A, c, e, l, Kd.F_step f hm⟩
theorem RV_fr (h : RV d w ok v xs) (hf : Fr w w1 S) (hs : ∀ k, ok k → ¬ S k) : RV d w1 ok v xs := RV_step h (fun k hk hl => hf.block k hl (hs k hk))
theorem RV_below (h : RV d w ok v xs) (hb : Below w.heap.size w w1) : RV d w1 ok v xs := RV_step h (fun k _ hk => hb.block k hk)
theorem RV_of_G (h : G d e w ok v xs) : RV d w ok v xs := by
  obtain ⟨A, c, rfl, hl⟩ := G_slice h
  exact ⟨A, c, rfl, hl, G_F h⟩
theorem RV_C {A : Option Addr} {n c : Nat} (h : RV d w ok (.slice A n c) xs) : d.C w A n xs := by obtain ⟨A', c', e, l, f⟩ := h; injection e with h1 h2 h3; subst h1 h2; exact Kd.F_now f
theorem RV_max (h : RV d w ok v xs) : xs.length ≤ 9223372036854775807 := by obtain ⟨A, c, e, l, f⟩ := h; exact Kd.F_max f
end

structure LS where
  index : Int
  term : Int
  conf : List Int
  l : List S31

/-- The cells of entry j. -/
theorem G_ent {w : World} {ok : Nat → Prop} {A : Option Addr} {n c : Nat} {xs : List S31} (h : G k31 31 w ok (.slice A n c) xs) (j : Nat) (hj : j < xs.length) :
    ∃ b off A4 c4, A = some ⟨b, off, none⟩ ∧ ok b ∧ w.cell? ⟨b, off + j * 5, none⟩ = some (.int .u64 xs[j].f0) ∧ w.cell? ⟨b, off + j * 5 + 1, none⟩ = some (.int .u64 xs[j].f1) ∧ w.cell? ⟨b, off + j * 5 + 2, none⟩ = some (.int .u8 xs[j].f2) ∧
      w.cell? ⟨b, off + j * 5 + 3, none⟩ = some (.string xs[j].f3) ∧ w.cell? ⟨b, off + j * 5 + 4, none⟩ = some (.slice A4 xs[j].f4.length c4) ∧ xs[j].f4.length ≤ c4 ∧ Kd.F (Kd.int .i64) w ok A4 xs[j].f4.length xs[j].f4 := by
  obtain ⟨hn, hc⟩ := G_len h
  obtain ⟨b, off, hA⟩ : ∃ b off, A = some ⟨b, off, none⟩ := by
    obtain ⟨_, inner, ho, _⟩ := h
    rw [hn] at ho
    exact ho.addr (by omega)
  subst hA
  obtain ⟨ad, cs, he, _, hK, hcc, hin⟩ := Kd.F_get (G_F h) z31 (j : Int) (by omega) (by omega)
  injection he with he
  subst he
  simp only [Int.toNat_natCast, List.getD_eq_getElem?_getD, List.getElem?_eq_getElem hj, Option.getD_some] at hK
  obtain ⟨A4, c4, rfl, l4, g4⟩ := k31_openF hK
  have h5 : k31.sz = 5 := rfl
  simp only [Int.toNat_natCast, h5, add_at] at hcc
  have e1 : ∀ i, off + (j * 5 + i) = off + j * 5 + i := fun i => by omega
  refine ⟨b, off, A4, c4, rfl, hin (by rw [h5]; omega), ?_, ?_, ?_, ?_, ?_, l4, g4⟩
  · have := hcc 0 _ rfl; simpa using this
  · rw [← e1]; exact hcc 1 _ rfl
  · rw [← e1]; exact hcc 2 _ rfl
  · rw [← e1]; exact hcc 3 _ rfl
  · rw [← e1]; exact hcc 4 _ rfl

/-- A log (of struct type T) at block g; its entries' row is lv; all else that it leads to lies in ok, and in none of the blocks that its own calls write. -/
structure IsL (T g : Nat) (w : World) (ok : Nat → Prop) (lv : Value) (st : LS) : Prop where
  ex : ∃ cv, w.heap[g]? = some (.cells #[.int .u64 st.index, .int .u64 st.term, cv, lv] T (0, 0)) ∧ RV (Kd.int .i64) w (fun k => ok k ∧ k ≠ g ∧ some k ≠ lv.ownBlock) cv st.conf
  l : G k31 31 w (fun k => ok k ∧ k ≠ g) lv st.l

theorem IsL.step {T g : Nat} {w w1 : World} {ok : Nat → Prop} {lv : Value} {st : LS} (h : IsL T g w ok lv st) (hg : w1.heap[g]? = w.heap[g]?) (hm : ∀ k, ok k → k < w.heap.size → w1.heap[k]? = w.heap[k]?) : IsL T g w1 ok lv st := by
  obtain ⟨⟨cv, hb, hc⟩, hl⟩ := h
  exact ⟨⟨cv, hg.trans hb, RV_step hc (fun k hk hk2 => hm k hk.1 hk2)⟩, G_step hl (fun k hk hk2 => hm k hk.1 hk2)⟩
theorem IsL.lt {T g : Nat} {w : World} {ok : Nat → Prop} {lv : Value} {st : LS} (h : IsL T g w ok lv st) : g < w.heap.size := by
  obtain ⟨⟨cv, hb, hc⟩, hl⟩ := h
  exact blk_lt hb
theorem IsL.below {T g : Nat} {w w1 : World} {ok : Nat → Prop} {lv : Value} {st : LS} (h : IsL T g w ok lv st) (hb : Below w.heap.size w w1) : IsL T g w1 ok lv st := h.step (hb.block g h.lt) (fun k _ hk => hb.block k hk)
theorem IsL.mono {T g : Nat} {w : World} {ok ok' : Nat → Prop} {lv : Value} {st : LS} (h : IsL T g w ok lv st) (hok : ∀ k, ok k → ok' k) : IsL T g w ok' lv st := by
  obtain ⟨⟨cv, hb, hc⟩, hl⟩ := h
  exact ⟨⟨cv, hb, RV_mono hc (fun k hk => ⟨hok k hk.1, hk.2⟩)⟩, G_mono hl (fun k hk => ⟨hok k hk.1, hk.2⟩)⟩
theorem IsL.bound {T g : Nat} {w : World} {ok : Nat → Prop} {lv : Value} {st : LS} (h : IsL T g w ok lv st) : IsL T g w (fun k => ok k ∧ k < w.heap.size) lv st := by
  obtain ⟨⟨cv, hb, hc⟩, hl⟩ := h
  exact ⟨⟨cv, hb, RV_mono (RV_bound hc) (fun k hk => ⟨⟨hk.1.1, hk.2⟩, hk.1.2⟩)⟩, G_mono (G_bound hl) (fun k hk => ⟨⟨hk.1.1, hk.2⟩, hk.1.2⟩)⟩

def LS.last (st : LS) : Int × Int := match st.l.getLast? with | none => (st.index, st.term) | some e => (e.f0, e.f1)

set_option maxHeartbeats 400000 in
theorem base_any {g : Nat} {w : World} {ok : Nat → Prop} {lv : Value} {st : LS} (h : IsL 70 g w ok lv st) :
    Calls Try.prog 18 #[.pointer (some ⟨g, 0, none⟩)] w fun e w' => e = .returned (.tuple #[.int .u64 st.index, .int .u64 st.term]) ∧ Below w.heap.size w w' := by
  obtain ⟨⟨cv, hb, hc⟩, hl⟩ := h
  have c0 := blk_cell hb
  clear hb hc hl
  go_enter Try.func18, Try.ntmps18
  go_wp2
  go_quiet (fail)
  go_wp2
  go_ret2
  exact ⟨rfl, pw_below_drewN (Below.refl _ _) _⟩

set_option maxHeartbeats 400000 in
theorem last_any {g : Nat} {w : World} {ok : Nat → Prop} {lv : Value} {st : LS} (h : IsL 70 g w ok lv st) (hlen : st.l.length ≤ 4096) :
    Calls Try.prog 14 #[.pointer (some ⟨g, 0, none⟩)] w fun e w' => e = .returned (.tuple #[.int .u64 st.last.1, .int .u64 st.last.2]) ∧ Below w.heap.size w w' := by
  have H := Lib.hid h
  obtain ⟨⟨cv, hb, hc⟩, hl⟩ := h
  obtain ⟨A, c, rfl, hlc⟩ := G_slice hl
  have c0 := blk_cell hb
  clear hc
  rcases Nat.eq_zero_or_pos st.l.length with h0 | h0
  · have hla : st.last = (st.index, st.term) := by
      have : st.l = [] := List.eq_nil_of_length_eq_zero h0
      simp [LS.last, this]
    rw [hla]
    rw [h0] at c0
    clear hl hb hlc hlen h0
    go_enter Try.func14, Try.ntmps14
    go_wp2_with fail
    refine (base_any H.out).mono ?_
    rintro e w' ⟨rfl, hb⟩
    have HB := Lib.hid hb
    clear hb
    go_wp2
    go_ret2
    exact ⟨rfl, HB.out⟩
  · obtain ⟨n, hn⟩ : ∃ n, st.l.length = n + 1 := ⟨st.l.length - 1, by omega⟩
    obtain ⟨b, off, A4, c4, rfl, _, e0, e1, e2, e3, e4, _, _⟩ := G_ent hl n (by omega)
    have hla : st.last = (st.l[n].f0, st.l[n].f1) := by
      have : st.l.getLast? = some st.l[n] := by rw [List.getLast?_eq_getElem?, show st.l.length - 1 = n by omega]; exact List.getElem?_eq_getElem _
      simp [LS.last, this]
    rw [hla]
    generalize st.l[n] = x at *
    rw [hn] at c0
    clear hl hb H hla
    have q1 : IntKind.i64.wrap ((n : Int) + 1 - 1) = n := IntWalk.i64_in _ (by omega) |>.trans (by omega)
    have q4 : IntKind.i64.wrap (n : Int) = n := IntWalk.i64_in _ (by omega)
    have q2 : (0 : Int) ≤ n := by omega
    have q3 : (n : Int) < n + 1 := by omega
    have d3 := c0 3
    simp only [List.getElem?_toArray, List.getElem?_cons_succ, List.getElem?_cons_zero] at d3
    clear hn hlc
    go_enter Try.func14, Try.ntmps14
    go_wp2_with fail
    go_region_held3 (fun w' => w'.cell? ⟨g, 3, none⟩ = some (.slice (some ⟨b, off, none⟩) (n + 1) c) ∧ w'.cell? ⟨b, off + n * 5, none⟩ = some (.int .u64 x.f0) ∧ w'.cell? ⟨b, off + n * 5 + 1, none⟩ = some (.int .u64 x.f1) ∧ w'.cell? ⟨b, off + n * 5 + 2, none⟩ = some (.int .u8 x.f2) ∧ w'.cell? ⟨b, off + n * 5 + 3, none⟩ = some (.string x.f3) ∧ w'.cell? ⟨b, off + n * 5 + 4, none⟩ = some (.slice A4 x.f4.length c4)) (go_keep) (fail)
    all_goals
      go_wp2_with fail
      go_quiet (fail)
      go_wp2
      go_ret2
      exact ⟨rfl, pw_below_drewN (below_drew (below_alloc (Below.refl _ _) _)) _⟩
end Go.Proofs.Ytpnmodkddiljeaa
