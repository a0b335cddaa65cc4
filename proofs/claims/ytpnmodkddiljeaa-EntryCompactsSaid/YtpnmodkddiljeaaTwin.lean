/- Two logs of the call's own, apart from each other. No walk. -/
import Derived.Test.YtpnmodkddiljeaaWorks
namespace Go.Proofs.Ytpnmodkddiljeaa
open Go.RowKit Go.Proofs.YtpnmodkddiljeaaW.PrintWords PEntryPlays Go.Shelf

/-- F: all blocks that the two logs are made of. -/
structure Twin (g g2 : Nat) (w0 w : World) (st st2 : LS) (F : Nat → Prop) : Prop where
  ok1 : LSok st
  ok2 : LSok st2
  ge : ∀ k, F k → w0.heap.size ≤ k
  fg : F g
  fg2 : F g2
  ne : g ≠ g2
  below : Below w0.heap.size w0 w
  ex : ∃ (ok ok2 : Nat → Prop) (lv lv2 : Value), IsL 70 g w ok lv st ∧ IsL 70 g2 w ok2 lv2 st2 ∧ (∀ k, ok k → F k) ∧ (∀ k, ok2 k → F k) ∧ (∀ k, ok k → ¬ ok2 k) ∧ ¬ ok g2 ∧ ¬ ok2 g
theorem Twin.swap {g g2 : Nat} {w0 w : World} {st st2 : LS} {F : Nat → Prop} (h : Twin g g2 w0 w st st2 F) : Twin g2 g w0 w st2 st F := by
  obtain ⟨a1, a2, a3, a4, a5, a6, a7, ok, ok2, lv, lv2, b1, b2, b3, b4, b5, b6, b7⟩ := h
  exact ⟨a2, a1, a3, a5, a4, a6.symm, a7, ok2, ok, lv2, lv, b2, b1, b4, b3, fun k h1 h2 => b5 k h2 h1, b7, b6⟩
theorem Twin.down {g g2 : Nat} {w0 w w' : World} {st st2 : LS} {F : Nat → Prop} (h : Twin g g2 w0 w st st2 F) (hb : Below w.heap.size w w') : Twin g g2 w0 w' st st2 F := by
  obtain ⟨a1, a2, a3, a4, a5, a6, a7, ok, ok2, lv, lv2, b1, b2, b3, b4, b5, b6, b7⟩ := h
  exact ⟨a1, a2, a3, a4, a5, a6, below_then a7 a7.size hb, ok, ok2, lv, lv2, b1.below hb, b2.below hb, b3, b4, b5, b6, b7⟩
theorem Twin.wider {g g2 : Nat} {w0 w : World} {st st2 : LS} {F F' : Nat → Prop} (h : Twin g g2 w0 w st st2 F) (hF : ∀ k, F k → F' k) (hge : ∀ k, F' k → w0.heap.size ≤ k) : Twin g g2 w0 w st st2 F' := by
  obtain ⟨a1, a2, a3, a4, a5, a6, a7, ok, ok2, lv, lv2, b1, b2, b3, b4, b5, b6, b7⟩ := h
  exact ⟨a1, a2, hge, hF _ a4, hF _ a5, a6, a7, ok, ok2, lv, lv2, b1, b2, fun k hk => hF _ (b3 k hk), fun k hk => hF _ (b4 k hk), b5, b6, b7⟩
/-- Only what lies there now. -/
theorem Twin.now {g g2 : Nat} {w0 w : World} {st st2 : LS} {F : Nat → Prop} (h : Twin g g2 w0 w st st2 F) : Twin g g2 w0 w st st2 (fun k => F k ∧ k < w.heap.size) := by
  obtain ⟨a1, a2, a3, a4, a5, a6, a7, ok, ok2, lv, lv2, b1, b2, b3, b4, b5, b6, b7⟩ := h
  exact ⟨a1, a2, fun k hk => a3 k hk.1, ⟨a4, b1.lt⟩, ⟨a5, b2.lt⟩, a6, a7, _, _, lv, lv2, b1.bound, b2.bound, fun k hk => ⟨b3 k hk.1, hk.2⟩, fun k hk => ⟨b4 k hk.1, hk.2⟩, fun k h1 h2 => b5 k h1.1 h2.1, fun h => b6 h.1, fun h => b7 h.1⟩
theorem Twin.left {g g2 : Nat} {w0 w w' : World} {st st2 st' : LS} {F ok ok2 : Nat → Prop} {lv lv2 : Value} (a2 : LSok st2) (a3 : ∀ k, F k → w0.heap.size ≤ k) (a4 : F g) (a5 : F g2) (a6 : g ≠ g2) (a7 : Below w0.heap.size w0 w)
    (b1 : IsL 70 g w ok lv st) (b2 : IsL 70 g2 w ok2 lv2 st2) (b3 : ∀ k, ok k → F k) (b4 : ∀ k, ok2 k → F k) (b5 : ∀ k, ok k → ¬ ok2 k) (b6 : ¬ ok g2) (b7 : ¬ ok2 g) (hok : LSok st') (h : Left 70 g w ok lv st' w') :
    Twin g g2 w0 w' st' st2 (fun k => F k ∨ w.heap.size ≤ k) ∧ Fr w w' F := by
  obtain ⟨lv', h1, hf, _⟩ := h
  have hs := a7.size
  have hown := b1.own
  have hg2 := b2.lt
  have hfF : Fr w w' F := hf.mono (fun k _ hk => by rcases hk with hk | hk; exact hk ▸ a4; exact b3 k (hown k hk.symm).1)
  refine ⟨⟨hok, a2, fun k hk => hk.elim (a3 k) (fun h => by omega), .inl a4, .inl a5, a6, ?_, _, _, lv', lv2, h1, b2.bound.step (hf.block g2 hg2 ?_) (fun k hk hkl => hf.block k hkl ?_), ?_, ?_, ?_, ?_, fun h => b7 h.1⟩, hfF⟩
  · exact ((Fr.of_below a7 (fun _ => False)).trans hfF (fun i hi => .inr (a3 i hi))).below (fun _ h => h.elim)
  · rintro (h | h)
    · exact a6 h.symm
    · exact b6 (hown g2 h.symm).1
  · rintro (h | h)
    · exact b7 (h ▸ hk.1)
    · exact b5 k (hown k h.symm).1 hk.1
  · exact fun k hk => hk.elim (fun h => .inl (b3 k h)) .inr
  · exact fun k hk => .inl (b4 k hk.1)
  · rintro k (h | h) h2
    · exact b5 k h h2.1
    · have := h2.2; omega
  · rintro (h | h)
    · exact b6 h
    · omega
theorem twin_append {g g2 : Nat} {w0 w : World} {st st2 : LS} {F : Nat → Prop} (h : Twin g g2 w0 w st st2 F) (x : S31) (cv : Value) {okx : Nat → Prop} (hr : RV (Kd.int .i64) w okx cv x.f4) :
    Calls Try.prog 9 #[.pointer (some ⟨g, 0, none⟩), entV x cv] w fun e w' => e = .returned (.int .i64 (st.append x).2) ∧ Twin g g2 w0 w' (st.append x).1 st2 (fun k => F k ∨ w.heap.size ≤ k) ∧ Fr w w' F := by
  obtain ⟨a1, a2, a3, a4, a5, a6, a7, ok, ok2, lv, lv2, b1, b2, b3, b4, b5, b6, b7⟩ := h
  exact (append_any b1 a1 x cv hr).mono fun e w' ⟨a, b⟩ => ⟨a, Twin.left a2 a3 a4 a5 a6 a7 b1 b2 b3 b4 b5 b6 b7 (a1.append x) b⟩
theorem twin_store {g g2 : Nat} {w0 w : World} {st st2 : LS} {F : Nat → Prop} (h : Twin g g2 w0 w st st2 F) (i t : Int) (hi : 0 ≤ i) (es : List S31) {ve : Value} {oke : Nat → Prop} (he : G k31 31 w oke ve es) (hg : ¬ oke g) (hl : es.length ≤ 4096) (h7 : ∀ e, e ∈ es → e.f4.length ≤ 4096) :
    Calls Try.prog 11 #[.pointer (some ⟨g, 0, none⟩), .int .u64 i, .int .u64 t, ve] w fun e w' => ∃ v, e = .returned (.tuple #[.int .u64 (st.store i t es).at_, v, .int .i64 (st.store i t es).e]) ∧ Twin g g2 w0 w' (st.store i t es).st st2 (fun k => F k ∨ w.heap.size ≤ k) ∧ Fr w w' F := by
  obtain ⟨a1, a2, a3, a4, a5, a6, a7, ok, ok2, lv, lv2, b1, b2, b3, b4, b5, b6, b7⟩ := h
  exact (store_any b1 a1 i t hi es he hg hl h7).mono fun e w' ⟨v, a, b, _⟩ => ⟨v, a, Twin.left a2 a3 a4 a5 a6 a7 b1 b2 b3 b4 b5 b6 b7 (a1.store hi es) b⟩
theorem twin_compact {g g2 : Nat} {w0 w : World} {st st2 : LS} {F : Nat → Prop} (h : Twin g g2 w0 w st st2 F) (i : Int) :
    Calls Try.prog 12 #[.pointer (some ⟨g, 0, none⟩), .int .u64 i] w fun e w' => e = .returned (.int .i64 (st.compact i).2) ∧ Twin g g2 w0 w' (st.compact i).1 st2 (fun k => F k ∨ w.heap.size ≤ k) ∧ Fr w w' F := by
  obtain ⟨a1, a2, a3, a4, a5, a6, a7, ok, ok2, lv, lv2, b1, b2, b3, b4, b5, b6, b7⟩ := h
  exact (compact_any b1 a1 i).mono fun e w' ⟨a, b⟩ => ⟨a, Twin.left a2 a3 a4 a5 a6 a7 b1 b2 b3 b4 b5 b6 b7 (a1.compact i) b⟩
/-- The first of the two, by itself (what is asked of it). -/
theorem Twin.one {g g2 : Nat} {w0 w : World} {st st2 : LS} {F : Nat → Prop} (h : Twin g g2 w0 w st st2 F) : Live g w0 w st := by
  obtain ⟨a1, a2, a3, a4, a5, a6, a7, ok, ok2, lv, lv2, b1, b2, b3, b4, b5, b6, b7⟩ := h
  exact ⟨a1, a3 g a4, a7, lv, b1.mono (fun k hk => a3 k (b3 k hk))⟩
end Go.Proofs.Ytpnmodkddiljeaa
