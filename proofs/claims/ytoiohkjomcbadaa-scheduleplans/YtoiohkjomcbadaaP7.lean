/- SchedulePlans: for every input the law returns true; each argument reads behind the call as it read before. -/
import Derived.Test.YtoiohkjomcbadaaP6
import Derived.Test.YtoiohkjomcbadaaRows
import Derived.ShutString
namespace Go.Proofs.Ytoiohkjomcbadaa
open Go Sy Go.ChangeShapes Go.WideShapes Go.RowKit
set_option maxRecDepth 100000
set_option linter.unusedVariables false
theorem own : ownKnob Try.prog.godebug = none := by kernel_rfl
theorem laidOut : laidOutB Try.prog = true := by kernel_rfl
theorem walk10 (W : World) (v0 v1 v2 v3 v4 v5 : Value) (j : Jb) (o : List (List Int)) (l : List Int) (ws : List Wn) (mi : Int) (fr : Int) (h0 : fsat (inW W) W (aJ j) v0) (h1 : fsat (inW W) W (aO o) v1) (h2 : fsat (inW W) W (aI l) v2) (h3 : fsat (inW W) W (aN ws) v3) (h4 : fsat (inW W) W (iv mi) v4) (h5 : fsat (inW W) W (iv fr) v5) (oj : OJ j) (oo : o.length * 24 ≤ 140737488351232 ∧ ∀ l ∈ o, l.length * 8 ≤ 140737488351232 ∧ ∀ x ∈ l, I64 x) (ol : l.length * 8 ≤ 140737488351232 ∧ ∀ x ∈ l, I64 x) (ows : ws.length * 16 ≤ 140737488351232 ∧ ∀ w ∈ ws, I64 w.f ∧ I64 w.t) (omi : I64 mi) (ofr : I64 fr) :
    Calls Try.prog 10 #[v0, v1, v2, v3, v4, v5] W fun e w' => e = .returned (.bool true) ∧ Below W.heap.size W w' := by
  have hf : Sy.Fn Try.prog 10 [aJ j, aO o, aI l, aN ws, iv mi, iv fr] (bv true) := fn10 j o l ws mi fr (by have := oj.t; omega) (by have := oo.1; omega) (by have := ol.1; omega) (by have := ows.1; omega)
  refine (hf.2 (inW W) W [v0, v1, v2, v3, v4, v5] (fun b hb => hb) ?_).mono ?_
  · simp only [fsatT]
    exact ⟨v0, _, rfl, h0, v1, _, rfl, h1, v2, _, rfl, h2, v3, _, rfl, h3, v4, _, rfl, h4, v5, _, rfl, h5, rfl⟩
  · rintro e w' ⟨v, rfl, hb, hv⟩
    simp only [fsat] at hv
    exact ⟨by rw [hv], hb⟩
theorem lifted10 (os : Os) (started : os.Started) (H : Type) (enc : TypeId × Value → H) :
    ReturnsInHanded {} Try.checked os 10 .any (Rows.schedulePlansSpec.pre6 enc Try.prog Try.f10 Rows.schedulePlansRow.domain false) (Rows.schedulePlansSpec.post enc Try.prog Try.f10 false true false false) := by
  refine returnsInHanded_of_change_sized (C := Try.checked) own started (by kernel_rfl) Try.func10
    (ChangeSpec.witness6 (enc := enc) (C := Try.checked) false ⟨#[], #[.agg #[.slice none 0 0, .slice none 0 0, .slice none 0 0], .slice none 0 0, .slice none 0 0, .slice none 0 0, .int .i64 0, .int .i64 0], []⟩ 8 (by kernel_rfl) (by kernel_rfl) (by kernel_rfl) (by kernel_rfl)) ?_
  intro W base args ds gs before hval0 hW hcnd hsz _
  have hval : ∀ (j : Nat) t v, Try.f10.params[j]? = some t → args[j]? = some v → Value.okWide Try.prog W .any base t v := hval0
  have hW' := hW
  obtain ⟨p, q, hA0, hV, rfl, hfz, hnd⟩ := hW
  have hA : DataW.TrodAll enc Try.prog W 0 (fun _ => true) true Try.f10.params.toList args.toList ds p := hA0
  rw [Try.params10] at hA hval
  obtain ⟨v0, vs0, d0, ds0, p0, q0, hargs, rfl, rfl, h0, r0⟩ := trodAll_cons hA
  obtain ⟨v1, vs1, d1, ds1, p1, q1, rfl, rfl, rfl, h1, r1⟩ := trodAll_cons r0
  obtain ⟨v2, vs2, d2, ds2, p2, q2, rfl, rfl, rfl, h2, r2⟩ := trodAll_cons r1
  obtain ⟨v3, vs3, d3, ds3, p3, q3, rfl, rfl, rfl, h3, r3⟩ := trodAll_cons r2
  obtain ⟨v4, vs4, d4, ds4, p4, q4, rfl, rfl, rfl, h4, r4⟩ := trodAll_cons r3
  obtain ⟨v5, vs5, d5, ds5, p5, q5, rfl, rfl, rfl, h5, r5⟩ := trodAll_cons r4
  obtain ⟨rfl, rfl, rfl⟩ := trodAll_nil r5
  obtain rfl : args = #[v0, v1, v2, v3, v4, v5] := by cases args; simp_all
  obtain ⟨rfl, rfl⟩ := trodVars_none hV
  have hs : ∀ (j : Nat) t (d : DataW H), [26, 27, 24, 33, 2, 2][j]? = some t → [d0, d1, d2, d3, d4, d5][j]? = some d → ∀ n ∈ d.weights Try.prog t, n ≤ reachBytes := fun j t d ht hd n hn => by
    have hall := List.all_eq_true.1 hsz n (DataW.weights_mem_each (j := j) (t := t) (d := d) (by rw [Try.params10]; simpa using (List.getElem?_append_left (l₂ := _) (by have := (List.getElem?_eq_some_iff.1 ht).1; simpa using this)).trans ht) (by simpa using (List.getElem?_append_left (l₂ := _) (by have := (List.getElem?_eq_some_iff.1 hd).1; simpa using this)).trans hd) n hn)
    simpa using hall
  have lt0 : ∀ x ∈ p0, x.block < W.heap.size := by obtain ⟨m, hm⟩ := h0; exact DataW.trod_lt m _ _ _ hm
  have lt1 : ∀ x ∈ p1, x.block < W.heap.size := by obtain ⟨m, hm⟩ := h1; exact DataW.trod_lt m _ _ _ hm
  have lt2 : ∀ x ∈ p2, x.block < W.heap.size := by obtain ⟨m, hm⟩ := h2; exact DataW.trod_lt m _ _ _ hm
  have lt3 : ∀ x ∈ p3, x.block < W.heap.size := by obtain ⟨m, hm⟩ := h3; exact DataW.trod_lt m _ _ _ hm
  have lt4 : ∀ x ∈ p4, x.block < W.heap.size := by obtain ⟨m, hm⟩ := h4; exact DataW.trod_lt m _ _ _ hm
  have lt5 : ∀ x ∈ p5, x.block < W.heap.size := by obtain ⟨m, hm⟩ := h5; exact DataW.trod_lt m _ _ _ hm
  obtain ⟨j, oj, s0⟩ := k26.arg (by kernel_rfl) (hval 0 26 v0 rfl rfl) h0 (hs 0 26 d0 rfl rfl)
  obtain ⟨o, oo, s1⟩ := k27.arg1 (by kernel_rfl) (hval 1 27 v1 rfl rfl) h1 (hs 1 27 d1 rfl rfl)
  obtain ⟨l, ol, s2⟩ := k24.arg1 (by kernel_rfl) (hval 2 24 v2 rfl rfl) h2 (hs 2 24 d2 rfl rfl)
  obtain ⟨ws, ows, s3⟩ := k33.arg1 (by kernel_rfl) (hval 3 33 v3 rfl rfl) h3 (hs 3 33 d3 rfl rfl)
  obtain ⟨mi, omi, s4⟩ := k2.arg1 (by kernel_rfl) (hval 4 2 v4 rfl rfl) h4 (hs 4 2 d4 rfl rfl)
  obtain ⟨fr, ofr, s5⟩ := k2.arg1 (by kernel_rfl) (hval 5 2 v5 rfl rfl) h5 (hs 5 2 d5 rfl rfl)
  clear hA0 hval0
  refine (walk10 W v0 v1 v2 v3 v4 v5 j o l ws mi fr s0 s1 s2 s3 s4 s5 oj oo ol ows omi ofr).mono fun e W' ⟨he, bel⟩ => ?_
  subst he
  exact ⟨_, rfl, _, _, _, [], _, [], hW', trodAll_mk1 (shut_bool Try.underlying4 _), (trodAll_cons_mk (Below.trod laidOut (by kernel_rfl) (of_decide_eq_true (by kernel_rfl)) h0 bel lt0) (trodAll_cons_mk (Below.trod laidOut (by kernel_rfl) (of_decide_eq_true (by kernel_rfl)) h1 bel lt1) (trodAll_cons_mk (Below.trod laidOut (by kernel_rfl) (of_decide_eq_true (by kernel_rfl)) h2 bel lt2) (trodAll_cons_mk (Below.trod laidOut (by kernel_rfl) (of_decide_eq_true (by kernel_rfl)) h3 bel lt3) (trodAll_cons_mk (Below.trod laidOut (by kernel_rfl) (of_decide_eq_true (by kernel_rfl)) h4 bel lt4) (trodAll_cons_mk (Below.trod laidOut (by kernel_rfl) (of_decide_eq_true (by kernel_rfl)) h5 bel lt5) trodAll_mk0)))))), rfl, bel.frame _, fun h => by cases h⟩
theorem over10 : Rows.schedulePlansRow.holds Try.pinned (OpenSpec.ofChange Rows.schedulePlansSpec) :=
  OpenClaim.holds_of_wide 10 Try.f10 rfl rfl rfl rfl rfl rfl rfl ⟨rfl, rfl, rfl, rfl, rfl⟩ rfl rfl rfl rfl rfl (by kernel_rfl) Try.func10 (by kernel_rfl)
    (of_decide_eq_true (by kernel_rfl)) (by unfold Func.isWrapper; first | (rw [if_pos (by decide +kernel)]; kernel_rfl) | (rw [if_neg (by decide +kernel)]; exact ⟨rfl, rfl⟩))
    (fun os started H enc _ => lifted10 os started H enc)
theorem schedule_plans_holds : Rows.SchedulePlansSaid := over10
end Go.Proofs.Ytoiohkjomcbadaa

