/- EntryPlays, whole; its row: whatever the input, it returns true and the input reads as it did. No conditions. -/
import Derived.Test.YtpnmodkddiljeaaPlays
import Derived.Test.YtpnmodkddiljeaaRead
import Derived.OpenShut
import Derived.ChangeOld
import Derived.Below
namespace Go.Proofs.Ytpnmodkddiljeaa
open Go.ChangeShapes Go.WideShapes Go.ChangeAt Go.RowKit Go.Proofs.YtpnmodkddiljeaaW.PrintWords PEntryPlays

set_option maxHeartbeats 1000000 in
set_option maxRecDepth 100000 in
theorem plays_any (index term : Int) (conf : List Int) (script : List S45) {w : World} {A2 A0 : Option Addr} {c2 c0 : Nat} (hC : Kd.C (Kd.int .i64) w A2 conf.length conf) (hc2 : conf.length ≤ c2) (hS : Kd.C k45 w A0 script.length script) (hc0 : script.length ≤ c0)
    (gS : ∀ s, s ∈ script → GoodS s) (hi : 0 ≤ index) :
    Calls Try.prog 5 #[.int .u64 index, .int .u64 term, .slice A2 conf.length c2, .slice A0 script.length c0] w fun e w' => e = .returned (.bool true) ∧ Below w.heap.size w w' := by
  cases hh : heavyS script with
  | true =>
    have HS := Lib.hid hS
    clear hS gS hC
    go_enter Try.func5, Try.ntmps5
    go_wp2_with fail
    refine (pheavy_calls script HS.out hc0).mono ?_
    rw [hh]
    rintro e w1 ⟨rfl, hb⟩
    have HB1 := Lib.hid hb
    clear hb
    go_wp2_with fail
    refine (works_any _).mono ?_
    rintro e w2 ⟨rfl, hb⟩
    have HB2 := Lib.hid (below_then HB1.out HB1.out.size hb)
    clear hb
    go_wp2_with fail
    go_ret
    exact ⟨rfl, HB2.out⟩
  | false =>
    by_cases hl : conf.length ≤ 100
    · exact plays_main index term conf script hC hc2 hS hc0 (fun s hs => ⟨(gS s hs).1, (gS s hs).2.1⟩) (heavy_light (fun s hs => (gS s hs).2.2) hh) hh hl hi
    · have hl' : (100 : Int) < (conf.length : Int) := by omega
      have HS := Lib.hid hS
      clear hS gS hC
      go_enter Try.func5, Try.ntmps5
      go_wp2_with fail
      refine (pheavy_calls script HS.out hc0).mono ?_
      rw [hh]
      rintro e w1 ⟨rfl, hb⟩
      have HB1 := Lib.hid hb
      clear hb
      go_wp2_with fail
      refine (works_any _).mono ?_
      rintro e w2 ⟨rfl, hb⟩
      have HB2 := Lib.hid (below_then HB1.out HB1.out.size hb)
      clear hb
      go_wp2_with fail
      go_ret
      exact ⟨rfl, HB2.out⟩

theorem open_28 {H : Type} {enc : TypeId × Value → H} {W : World} {base : Nat} {spare : Nat → Bool} {held : Bool} {v : Value} {D : DataW H} {ps : List MemPlace} (h : DataW.Trod enc Try.prog W base spare held 28 v D ps) (hw : ∀ n, n ∈ D.weights Try.prog 28 → n ≤ reachBytes) (hv : v.cells.toList = [v]) :
    ∃ (es : List Int) (A : Option Addr) (c : Nat), v = .slice A es.length c ∧ es.length ≤ c ∧ Kd.C (Kd.int .i64) W A es.length es := by
  obtain ⟨fuel, hf⟩ := h
  obtain ⟨es, ⟨A, c, e1, h1, h2⟩, _, _⟩ := reads_slice (Kd.int .i64) (B := 8) Try.underlying28 (by kernel_rfl) (by kernel_rfl) (reads_int Try.underlying3) _ _ _ hf hw
  rw [hv] at e1
  injection e1 with e1 _
  exact ⟨es, A, c, e1, h1, h2⟩

theorem Try.own : ownKnob Try.prog.godebug = none := by kernel_rfl
theorem Try.laidOut : laidOutB Try.prog = true := by kernel_rfl

set_option maxRecDepth 100000 in
theorem plays_lifted (os : Os) (started : os.Started) (H : Type) (enc : TypeId × Value → H) :
    ReturnsInHanded {} Try.checked os 5 .any (Rows.entryPlaysSpec.pre6 enc Try.prog Try.f5 Rows.entryPlaysRow.domain false) (Rows.entryPlaysSpec.post enc Try.prog Try.f5 false true false false) := by
  refine returnsInHanded_of_change_sized (C := Try.checked) Try.own started (by kernel_rfl) Try.func5
    (ChangeSpec.witness6 (enc := enc) (C := Try.checked) false ⟨#[], #[.int .u64 0, .int .u64 0, .slice none 0 0, .slice none 0 0], []⟩ 8 (by kernel_rfl) (by kernel_rfl) (by kernel_rfl) (by kernel_rfl)) ?_
  intro W base args ds gs before hval0 hW hcnd hsz0 _
  have hsz : (DataW.weightsEach Try.prog (Try.f5.params.toList ++ Rows.entryPlaysSpec.plain.varTypes Try.prog) (ds ++ gs)).all (· ≤ reachBytes) = true := hsz0
  have hval : ∀ (j : Nat) t v, Try.f5.params[j]? = some t → args[j]? = some v → Value.okWide Try.prog W .any base t v := hval0
  have hW' := hW
  obtain ⟨p, q, hA0, hV, rfl, hfz, hnd⟩ := hW
  have hA : DataW.TrodAll enc Try.prog W 0 (fun _ => true) true Try.f5.params.toList args.toList ds p := hA0
  rw [Try.params5] at hA hval hsz
  obtain ⟨v0, vs0, d0, ds0, p0, q0, hargs, rfl, rfl, h0, r0⟩ := trodAll_cons hA
  obtain ⟨v1, vs1, d1, ds1, p1, q1, rfl, rfl, rfl, h1, r1⟩ := trodAll_cons r0
  obtain ⟨v2, vs2, d2, ds2, p2, q2, rfl, rfl, rfl, h2, r2⟩ := trodAll_cons r1
  obtain ⟨v3, vs3, d3, ds3, p3, q3, rfl, rfl, rfl, h3, r3⟩ := trodAll_cons r2
  obtain ⟨rfl, rfl, rfl⟩ := trodAll_nil r3
  obtain rfl : args = #[v0, v1, v2, v3] := by cases args; simp_all
  obtain ⟨rfl, rfl⟩ := trodVars_none hV
  obtain ⟨a0, rfl, rfl, rfl, w0⟩ := open_int Try.underlying27 (hval 0 27 v0 rfl rfl) h0
  obtain ⟨a1, rfl, rfl, rfl, w1⟩ := open_int Try.underlying27 (hval 1 27 v1 rfl rfl) h1
  obtain ⟨a2, len2, cap2, rfl⟩ := okWide_slice Try.underlying28 (hval 2 28 v2 rfl rfl)
  obtain ⟨a3, len3, cap3, rfl⟩ := okWide_slice Try.underlying41 (hval 3 41 v3 rfl rfl)
  have lt2 : ∀ x ∈ p2, x.block < W.heap.size := by obtain ⟨m, hm⟩ := h2; exact DataW.trod_lt m _ _ _ hm
  have lt3 : ∀ x ∈ p3, x.block < W.heap.size := by obtain ⟨m, hm⟩ := h3; exact DataW.trod_lt m _ _ _ hm
  have wt : ∀ (j : Nat) (t : TypeId) (d : DataW H), [27, 27, 28, 41][j]? = some t → [.lit (.int .u64 a0), .lit (.int .u64 a1), d2, d3][j]? = some d → ∀ n, n ∈ d.weights Try.prog t → n ≤ reachBytes := by
    intro j t d ht hd n hn
    have := List.all_eq_true.1 hsz n (DataW.weights_mem_each (j := j) (by rw [List.getElem?_append_left (by have := (List.getElem?_eq_some_iff.1 ht).1; simpa using this)]; exact ht) (by rw [List.getElem?_append_left (by have := (List.getElem?_eq_some_iff.1 hd).1; simpa using this)]; exact hd) n hn)
    simpa using this
  obtain ⟨conf, A2, c2, e2, l2, C2⟩ := open_28 h2 (wt 2 28 d2 rfl rfl) (by simp [Value.cells])
  obtain ⟨script, A3, c3, e3, l3, C3, g3⟩ := open_41 h3 (wt 3 41 d3 rfl rfl) (by simp [Value.cells])
  rw [e2, e3]
  refine (plays_any a0 a1 conf script C2 l2 C3 l3 g3 (u64_of w0).1).mono fun e W' ⟨he, bel⟩ => ?_
  subst he
  rw [← e2, ← e3]
  exact ⟨_, rfl, _, _, _, [], _, [], hW', trodAll_mk1 (shut_bool Try.underlying4 true), trodAll_cons_mk (shut_int Try.underlying27 w0) (trodAll_cons_mk (shut_int Try.underlying27 w1) (trodAll_cons_mk (Below.trod Try.laidOut (by kernel_rfl) (of_decide_eq_true (by kernel_rfl)) h2 bel lt2) (trodAll_cons_mk (Below.trod Try.laidOut (by kernel_rfl) (of_decide_eq_true (by kernel_rfl)) h3 bel lt3) trodAll_mk0))), rfl, bel.frame _, fun h => by cases h⟩

theorem EntryPlays_holds : Rows.EntryPlaysSaid :=
  OpenClaim.holds_of_wide 5 Try.f5 rfl rfl rfl rfl rfl rfl rfl ⟨rfl, rfl, rfl, rfl, rfl⟩ rfl rfl rfl rfl rfl (by kernel_rfl) Try.func5 (by kernel_rfl)
    (of_decide_eq_true (by kernel_rfl)) (by unfold Func.isWrapper; rw [if_neg (by decide +kernel)]; exact ⟨rfl, rfl⟩)
    (fun os started H enc _ => plays_lifted os started H enc)

#print axioms EntryPlays_holds
end Go.Proofs.Ytpnmodkddiljeaa
