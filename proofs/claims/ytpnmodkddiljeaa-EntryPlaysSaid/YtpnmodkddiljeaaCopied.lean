/- copied: entries, of their own. Conditions: sizes. -/
import Derived.Test.YtpnmodkddiljeaaWorks
namespace Go.Proofs.Ytpnmodkddiljeaa
open Go.RowKit Go.Proofs.YtpnmodkddiljeaaW.PrintWords Go.Proofs.YtpnmodkddiljeaaW.PrintLast PEntryPlays Go.Shelf

set_option maxHeartbeats 1000000 in
set_option maxRecDepth 100000 in
theorem copied_any (es : List S31) {w : World} {A : Option Addr} {c : Nat} (hr : Kd.C k31 w A es.length es) (hl : es.length ≤ 4096) (h7 : ∀ e, e ∈ es → e.f4.length ≤ 4096) :
    Calls Try.prog 17 #[.slice A es.length c] w fun e w' => ∃ v, e = .returned v ∧ G k31 31 w' (fun k => w.heap.size ≤ k) v es ∧ Below w.heap.size w w' := by
  have HR := Lib.hid hr
  have H7 := Lib.hid h7
  clear hr h7
  go_enter Try.func17, Try.ntmps17
  go_wp2_with fail
  go_loopw [3, 4] (fun v i wr => ∃ k : Nat, k ≤ es.length ∧ i = .int .i64 k ∧ G k31 31 wr (fun b => w.heap.size ≤ b) v (es.take k) ∧ Below w.heap.size w wr)
    (fun _ i _ => es.length - (intOf i).toNat)
  case atStart => exact ⟨0, Nat.zero_le _, rfl, G_nil _ _ _ _, Below.refl _ _⟩
  case round =>
    obtain ⟨k, hk, rfl, hv, hB⟩ := hrel
    have HV := Lib.hid hv
    have HB := Lib.hid hB
    have hlk : (es.take k).length = k := by rw [List.length_take]; omega
    obtain ⟨Av, cv, hve, _⟩ := G_slice hv
    rw [hlk] at hve
    subst hve
    clear hv hB
    by_cases hlt : k < es.length
    · have q1 : IntKind.i64.wrap ((k : Int) + 1) = (k + 1 : Nat) := IntWalk.i64_in _ (by omega)
      have hC := Kd.C_below HR.out HB.out
      obtain ⟨ad, A4, c4, rfl, e0, e1, e2, e3, e4, hl4, hC4⟩ := at_T31 hC (k : Int) (by omega) (by omega)
      rw [rdT_nat es k hlt] at e0 e1 e2 e3 e4 hl4 hC4
      simp only [Int.toNat_natCast] at e0 e1 e2 e3 e4
      have hx7 := H7.out es[k] (List.getElem_mem _)
      have htk : es.take (k + 1) = es.take k ++ [es[k]] := by rw [List.take_succ_eq_append_getElem (by omega)]
      generalize es[k] = x at *
      have HC4 := Lib.hid (Kd.C_F (Kd.heap_int .i64) hC4)
      have HTk := Lib.hid htk
      have hwr := HB.out.size
      clear hC hC4 htk
      have HN := Lib.hid (fun W => G_nil (Kd.int .i64) 3 W (fun b => wr.heap.size ≤ b))
      have hvlt := G_lt HV.out
      have hl64 : ((es.take k).length + 1) * 64 ≤ 140737488355328 := by rw [hlk]; omega
      go_wp2_with (first | (at_builtin; refine G_append_rows (Kd.int .i64) rfl (.const (.slice none 0 0)) (.tmp 17) 28 3 (.int .i64 0) 8 rfl Try.underlying28 int_info rfl (by decide) (.slice none 0 0) [] x.f4 A4 x.f4.length c4 (fun _ => True) (fun b => b < wr.heap.size) rfl rfl (G_mono (HN.out _) (fun _ _ => trivial)) (Kd.F_alloc HC4.out _) (fun b _ => ⟨trivial, by simp [Value.ownBlock]⟩) (fun _ _ => trivial) (by simp; omega) ?_; intro v5 w5 hG5 hg5 hat5 _; rw [List.nil_append] at hG5; obtain ⟨A5, c5, rfl, hl5⟩ := G_slice hG5; have hbox := (hg5.block wr.heap.size (by simp) (by simp [Value.ownBlock])).trans (blk_new wr _); have bx := blk_cell hbox; have bf := blk_frozen hbox; have HBox := Lib.hid hbox; have HG5 := Lib.hid (G_set (G_int hG5 (ok' := fun b => wr.heap.size + 1 ≤ b) (fun b hb => by rcases hat5 with h | ⟨b', h, hb'⟩; (rw [h] at hb; simp [Value.ownBlock] at hb); (rw [h] at hb; injection hb with hb; simp at hb'; omega))) (p := ⟨wr.heap.size, 4, none⟩) (by dsimp only; omega) (.slice A5 x.f4.length c5)); have HFr8 := Lib.hid (show Fr wr (w5.setCell ⟨wr.heap.size, 4, none⟩ (.slice A5 x.f4.length c5)) (fun _ => False) from (((Fr.refl wr (fun _ => False)).alloc _).then_grown hg5 (fun i hi => by simp [Value.ownBlock] at hi)).setCell (p := ⟨wr.heap.size, 4, none⟩) (.inr (Nat.le_refl _)) _); have HV8 := Lib.hid (G_fr HV.out HFr8.out (fun _ _ h => h)); clear hG5 hg5 hat5 hbox e0 e1 e2 e3 e4) | (at_builtin; refine G_append k31 rfl (.tmp 20) (.tmp 22) 33 31 _ 64 rfl Try.underlying33 ent_info rfl (by decide) (.slice Av k cv) (es.take k) x _ (fun b => w.heap.size ≤ b) (fun b => wr.heap.size + 1 ≤ b) rfl (show Value.slice (some ⟨w5.heap.size, 0, none⟩) 1 1 = Value.slice (some ⟨(w5.setCell ⟨wr.heap.size, 4, none⟩ (.slice A5 x.f4.length c5)).heap.size, 0, none⟩) 1 1 from by simp) (k31_mkF _ _ x hl5 (G_F HG5.out)) (fun b hb => ⟨by omega, fun he => by have := hvlt b he.symm; omega⟩) (fun b hb => by have := HFr8.out.size; omega) HV8.out hl64 ?_; intro v9 w9 hG9 hg9 hat9 _))
      have hown := HV.out.1
      refine ⟨⟨k + 1, by omega, by simp, HTk.out ▸ hG9, ?_⟩, by simp [intOf]; omega⟩
      exact (((Fr.of_below HB.out (fun _ => False)).trans HFr8.out (fun _ h => h.elim)).then_grown hg9 (fun i hi => .inr (hown i hi))).below (fun _ h => h.elim)
    · obtain rfl : k = es.length := by omega
      go_wp2
      go_ret
      exact ⟨_, rfl, by have := HV.out; rw [List.take_length] at this; exact this, HB.out⟩
end Go.Proofs.Ytpnmodkddiljeaa
