/- EntryCompacts, whole; its row: whatever the input, it returns true and the input reads as it did. No conditions. -/
import Derived.Test.YtpnmodkddiljeaaCompacts
import Derived.Test.YtpnmodkddiljeaaRead
import Derived.OpenShut
import Derived.ChangeOld
import Derived.Below
namespace Go.Proofs.Ytpnmodkddiljeaa
open Go.ChangeShapes Go.WideShapes Go.ChangeAt Go.RowKit Go.Proofs.YtpnmodkddiljeaaW.PrintWords PEntryPlays

set_option maxHeartbeats 1000000 in
set_option maxRecDepth 100000 in
theorem compacts_any (script : List S45) (index : Int) {w : World} {A0 : Option Addr} {c0 : Nat} (hS : Kd.C k45 w A0 script.length script) (hc0 : script.length ≤ c0)
    (gS : ∀ s, s ∈ script → GoodS s) (hi : 0 ≤ index) (hi2 : index ≤ 18446744073709551615) :
    Calls Try.prog 6 #[.slice A0 script.length c0, .int .u64 index] w fun e w' => e = .returned (.bool true) ∧ Below w.heap.size w w' := by
  cases hh : heavyS script with
  | true =>
    have HS := Lib.hid hS
    clear hS gS
    go_enter Try.func6, Try.ntmps6
    go_wp2_with fail
    refine (heavy_calls script HS.out hc0).mono ?_
    rw [hh]
    rintro e w1 ⟨rfl, hb⟩
    have HB1 := Lib.hid hb
    clear hb
    go_wp2_with fail
    refine (works_any _).mono ?_
    rintro e w2 ⟨rfl, hb⟩
    have HB2 := Lib.hid (below_then HB1.out HB1.out.size hb)
    clear hb
    go_wp2_with fail
    go_ret
    exact ⟨rfl, HB2.out⟩
  | false => exact compacts_main script index hS hc0 (fun s hs => (gS s hs).1) (heavy_light (fun s hs => (gS s hs).2.2) hh) hh hi hi2

theorem Try.own : ownKnob Try.prog.godebug = none := by kernel_rfl
theorem Try.laidOut : laidOutB Try.prog = true := by kernel_rfl

set_option maxRecDepth 100000 in
theorem compacts_lifted (os : Os) (started : os.Started) (H : Type) (enc : TypeId × Value → H) :
    ReturnsInHanded {} Try.checked os 6 .any (Rows.entryCompactsSpec.pre6 enc Try.prog Try.f6 Rows.entryCompactsRow.domain false) (Rows.entryCompactsSpec.post enc Try.prog Try.f6 false true false false) := by
  refine returnsInHanded_of_change_sized (C := Try.checked) Try.own started (by kernel_rfl) Try.func6
    (ChangeSpec.witness6 (enc := enc) (C := Try.checked) false ⟨#[], #[.slice none 0 0, .int .u64 0], []⟩ 8 (by kernel_rfl) (by kernel_rfl) (by kernel_rfl) (by kernel_rfl)) ?_
  intro W base args ds gs before hval0 hW hcnd hsz0 _
  have hsz : (DataW.weightsEach Try.prog (Try.f6.params.toList ++ Rows.entryCompactsSpec.plain.varTypes Try.prog) (ds ++ gs)).all (· ≤ reachBytes) = true := hsz0
  have hval : ∀ (j : Nat) t v, Try.f6.params[j]? = some t → args[j]? = some v → Value.okWide Try.prog W .any base t v := hval0
  have hW' := hW
  obtain ⟨p, q, hA0, hV, rfl, hfz, hnd⟩ := hW
  have hA : DataW.TrodAll enc Try.prog W 0 (fun _ => true) true Try.f6.params.toList args.toList ds p := hA0
  rw [Try.params6] at hA hval hsz
  obtain ⟨v0, vs0, d0, ds0, p0, q0, hargs, rfl, rfl, h0, r0⟩ := trodAll_cons hA
  obtain ⟨v1, vs1, d1, ds1, p1, q1, rfl, rfl, rfl, h1, r1⟩ := trodAll_cons r0
  obtain ⟨rfl, rfl, rfl⟩ := trodAll_nil r1
  obtain rfl : args = #[v0, v1] := by cases args; simp_all
  obtain ⟨rfl, rfl⟩ := trodVars_none hV
  obtain ⟨a0, len0, cap0, rfl⟩ := okWide_slice Try.underlying41 (hval 0 41 v0 rfl rfl)
  obtain ⟨a1, rfl, rfl, rfl, w1⟩ := open_int Try.underlying27 (hval 1 27 v1 rfl rfl) h1
  have lt0 : ∀ x ∈ p0, x.block < W.heap.size := by obtain ⟨m, hm⟩ := h0; exact DataW.trod_lt m _ _ _ hm
  have wt : ∀ (j : Nat) (t : TypeId) (d : DataW H), [41, 27][j]? = some t → [d0, .lit (.int .u64 a1)][j]? = some d → ∀ n, n ∈ d.weights Try.prog t → n ≤ reachBytes := by
    intro j t d ht hd n hn
    have := List.all_eq_true.1 hsz n (DataW.weights_mem_each (j := j) (by rw [List.getElem?_append_left (by have := (List.getElem?_eq_some_iff.1 ht).1; simpa using this)]; exact ht) (by rw [List.getElem?_append_left (by have := (List.getElem?_eq_some_iff.1 hd).1; simpa using this)]; exact hd) n hn)
    simpa using this
  obtain ⟨script, A0, c0, e0, l0, C0, g0⟩ := open_41 h0 (wt 0 41 d0 rfl rfl) (by simp [Value.cells])
  rw [e0]
  refine (compacts_any script a1 C0 l0 g0 (u64_of w1).1 (u64_of w1).2).mono fun e W' ⟨he, bel⟩ => ?_
  subst he
  rw [← e0]
  exact ⟨_, rfl, _, _, _, [], _, [], hW', trodAll_mk1 (shut_bool Try.underlying4 true), trodAll_cons_mk (Below.trod Try.laidOut (by kernel_rfl) (of_decide_eq_true (by kernel_rfl)) h0 bel lt0) (trodAll_cons_mk (shut_int Try.underlying27 w1) trodAll_mk0), rfl, bel.frame _, fun h => by cases h⟩

theorem EntryCompacts_holds : Rows.EntryCompactsSaid :=
  OpenClaim.holds_of_wide 6 Try.f6 rfl rfl rfl rfl rfl rfl rfl ⟨rfl, rfl, rfl, rfl, rfl⟩ rfl rfl rfl rfl rfl (by kernel_rfl) Try.func6 (by kernel_rfl)
    (of_decide_eq_true (by kernel_rfl)) (by unfold Func.isWrapper; rw [if_neg (by decide +kernel)]; exact ⟨rfl, rfl⟩)
    (fun os started H enc _ => compacts_lifted os started H enc)

#print axioms EntryCompacts_holds
end Go.Proofs.Ytpnmodkddiljeaa
