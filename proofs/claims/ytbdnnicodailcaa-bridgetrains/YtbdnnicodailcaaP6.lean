/- The train of a vehicle is that of the definition, or refused. -/
import Derived.Test.YtbdnnicodailcaaP5
import Derived.Test.YtbdnnicodailcaaRows
import Derived.ShutString
/- Vehicles as arguments. -/
namespace Go.Proofs.Ytbdnnicodailcaa
open Go Sy
set_option maxRecDepth 100000
set_option linter.unusedVariables false
theorem k9 : Codec Try.prog 9 (fun s : ByteArray => [stv s]) (fun _ => True) := fun H enc w base held fuel cs x hx hw => by
  obtain ⟨s, rfl, _⟩ := DataW.trod_string Try.underlying9 hx
  refine ⟨s, trivial, ?_⟩
  simp only [fsatL, fsat]
  exact ⟨_, [], rfl, rfl, rfl, rfl⟩
theorem y9 : Try.prog.cellsOf 9 = 1 := by kernel_rfl
theorem y65 : Try.prog.cellsOf 65 = 1 := by kernel_rfl
theorem y68 : Try.prog.cellsOf 68 = 1 := by kernel_rfl
theorem y70 : Try.prog.cellsOf 70 = 11 := by kernel_rfl
theorem y106 : Try.prog.cellsOf 106 = 3 := by kernel_rfl
theorem b70 : Try.prog.bytesOf 70 = 104 := by kernel_rfl
theorem b106 : Try.prog.bytesOf 106 = 24 := by kernel_rfl
theorem k106 : Codec Try.prog 106 cA (fun _ => True) :=
  (Codec.struct Try.underlying106 (by kernel_rfl) (by kernel_rfl) (Parts.cons k2 y2 (Parts.cons k2 y2 (Parts.cons k3 y3 Parts.nil)))).map
    (fun x => ⟨x.1, x.2.1, x.2.2.1⟩) (fun _ => rfl) (fun _ _ => trivial)
theorem k68 : Codec Try.prog 68 (fun l : List Axl => [aA l]) (fun l => l.length * 24 ≤ 140737488351232) :=
  (Codec.slice Try.underlying68 (by rw [y106]; decide) y106 b106 dA k106).map id (fun _ => rfl) (fun _ h => h.1)
theorem k70 : Codec Try.prog 70 cU (fun u => u.axles.length * 24 ≤ 140737488351232) :=
  (Codec.struct Try.underlying70 (by kernel_rfl) (by kernel_rfl) (Parts.cons k3 y3 (Parts.cons k2 y2 (Parts.cons k2 y2 (Parts.cons k2 y2 (Parts.cons k2 y2 (Parts.cons k2 y2 (Parts.cons k2 y2 (Parts.cons k2 y2 (Parts.cons k2 y2 (Parts.cons k3 y3 (Parts.cons k68 y68 Parts.nil)))))))))))).map
    (fun x => ⟨x.1, x.2.1, x.2.2.1, x.2.2.2.1, x.2.2.2.2.1, x.2.2.2.2.2.1, x.2.2.2.2.2.2.1, x.2.2.2.2.2.2.2.1, x.2.2.2.2.2.2.2.2.1, x.2.2.2.2.2.2.2.2.2.1, x.2.2.2.2.2.2.2.2.2.2.1⟩) (fun _ => rfl) (fun _ h => h.2.2.2.2.2.2.2.2.2.2.1)
theorem k65 : Codec Try.prog 65 (fun l : List Unt => [aU l]) (fun l => l.length * 104 ≤ 140737488351232 ∧ ∀ u ∈ l, u.axles.length * 24 ≤ 140737488351232) :=
  (Codec.slice Try.underlying65 (by rw [y70]; decide) y70 b70 dU k70).map id (fun _ => rfl) (fun _ h => ⟨h.1, h.2.2⟩)
abbrev OV (v : Veh) : Prop := v.units.length * 104 ≤ 140737488351232 ∧ ∀ u ∈ v.units, u.axles.length * 24 ≤ 140737488351232
theorem k67 : Codec Try.prog 67 cV OV :=
  (Codec.struct Try.underlying67 (by kernel_rfl) (by kernel_rfl) (Parts.cons k9 y9 (Parts.cons k65 y65 (Parts.cons k3 y3 (Parts.cons k3 y3 Parts.nil))))).map
    (fun x => ⟨x.1, x.2.1, x.2.2.1, x.2.2.2.1⟩) (fun _ => rfl) (fun _ h => h.2.1)
end Go.Proofs.Ytbdnnicodailcaa

/- BridgeTrains: for every input the law returns true; each argument reads behind the call as it read before. -/
namespace Go.Proofs.Ytbdnnicodailcaa
open Go Sy Go.ChangeShapes Go.WideShapes Go.RowKit
set_option maxRecDepth 100000
set_option linter.unusedVariables false
theorem own : ownKnob Try.prog.godebug = none := by kernel_rfl
theorem laidOut : laidOutB Try.prog = true := by kernel_rfl

theorem walk11 (W : World) (v0 v1 : Value) (v : Veh) (l : List Int) (h0 : fsat (inW W) W (.agg (cV v)) v0) (h1 : fsat (inW W) W (aI l) v1) (ov : OV v) (ol : l.length * 8 ≤ 140737488351232) :
    Calls Try.prog 11 #[v0, v1] W fun e w' => e = .returned (.bool true) ∧ Below W.heap.size W w' := by
  have hf : Sy.Fn Try.prog 11 [.agg (cV v), aI l] (bv true) := fn11 v l (by have := ov.1; omega) (fun u hu => by have := ov.2 u hu; omega) (by omega)
  refine (hf.2 (inW W) W [v0, v1] (fun b hb => hb) ?_).mono ?_
  · simp only [fsatT]
    exact ⟨v0, _, rfl, h0, v1, _, rfl, h1, rfl⟩
  · rintro e w' ⟨v, rfl, hb, hv⟩
    simp only [fsat] at hv
    exact ⟨by rw [hv], hb⟩
theorem lifted11 (os : Os) (started : os.Started) (H : Type) (enc : TypeId × Value → H) :
    ReturnsInHanded {} Try.checked os 11 .any (Rows.bridgeTrainsSpec.pre6 enc Try.prog Try.f11 Rows.bridgeTrainsRow.domain false) (Rows.bridgeTrainsSpec.post enc Try.prog Try.f11 false true false false) := by
  refine returnsInHanded_of_change_sized (C := Try.checked) own started (by kernel_rfl) Try.func11
    (ChangeSpec.witness6 (enc := enc) (C := Try.checked) false ⟨#[], #[.agg #[.string ⟨#[]⟩, .slice none 0 0, .int .i64 0, .int .i64 0], .slice none 0 0], []⟩ 8 (by kernel_rfl) (by kernel_rfl) (by kernel_rfl) (by kernel_rfl)) ?_
  intro W base args ds gs before hval0 hW hcnd hsz _
  have hval : ∀ (j : Nat) t v, Try.f11.params[j]? = some t → args[j]? = some v → Value.okWide Try.prog W .any base t v := hval0
  have hW' := hW
  obtain ⟨p, q, hA0, hV, rfl, hfz, hnd⟩ := hW
  have hA : DataW.TrodAll enc Try.prog W 0 (fun _ => true) true Try.f11.params.toList args.toList ds p := hA0
  rw [Try.params11] at hA hval
  obtain ⟨v0, vs0, d0, ds0, p0, q0, hargs, rfl, rfl, h0, r0⟩ := trodAll_cons hA
  obtain ⟨v1, vs1, d1, ds1, p1, q1, rfl, rfl, rfl, h1, r1⟩ := trodAll_cons r0
  obtain ⟨rfl, rfl, rfl⟩ := trodAll_nil r1
  obtain rfl : args = #[v0, v1] := by cases args; simp_all
  obtain ⟨rfl, rfl⟩ := trodVars_none hV
  have hs : ∀ (j : Nat) t (d : DataW H), [67, 22][j]? = some t → [d0, d1][j]? = some d → ∀ n ∈ d.weights Try.prog t, n ≤ reachBytes := fun j t d ht hd n hn => by
    have hall := List.all_eq_true.1 hsz n (DataW.weights_mem_each (j := j) (t := t) (d := d) (by rw [Try.params11]; simpa using (List.getElem?_append_left (l₂ := _) (by have := (List.getElem?_eq_some_iff.1 ht).1; simpa using this)).trans ht) (by simpa using (List.getElem?_append_left (l₂ := _) (by have := (List.getElem?_eq_some_iff.1 hd).1; simpa using this)).trans hd) n hn)
    simpa using hall
  have lt0 : ∀ x ∈ p0, x.block < W.heap.size := by obtain ⟨m, hm⟩ := h0; exact DataW.trod_lt m _ _ _ hm
  have lt1 : ∀ x ∈ p1, x.block < W.heap.size := by obtain ⟨m, hm⟩ := h1; exact DataW.trod_lt m _ _ _ hm
  obtain ⟨v, ov, s0⟩ := k67.arg (by kernel_rfl) (hval 0 67 v0 rfl rfl) h0 (hs 0 67 d0 rfl rfl)
  obtain ⟨l, ol, s1⟩ := k22.arg1 (by kernel_rfl) (hval 1 22 v1 rfl rfl) h1 (hs 1 22 d1 rfl rfl)
  clear hA0 hval0
  refine (walk11 W v0 v1 v l s0 s1 ov ol).mono fun e W' ⟨he, bel⟩ => ?_
  subst he
  exact ⟨_, rfl, _, _, _, [], _, [], hW', trodAll_mk1 (shut_bool Try.underlying4 _), (trodAll_cons_mk (Below.trod laidOut (by kernel_rfl) (of_decide_eq_true (by kernel_rfl)) h0 bel lt0) (trodAll_cons_mk (Below.trod laidOut (by kernel_rfl) (of_decide_eq_true (by kernel_rfl)) h1 bel lt1) trodAll_mk0)), rfl, bel.frame _, fun h => by cases h⟩
theorem over11 : Rows.bridgeTrainsRow.holds Try.pinned (OpenSpec.ofChange Rows.bridgeTrainsSpec) :=
  OpenClaim.holds_of_wide 11 Try.f11 rfl rfl rfl rfl rfl rfl rfl ⟨rfl, rfl, rfl, rfl, rfl⟩ rfl rfl rfl rfl rfl (by kernel_rfl) Try.func11 (by kernel_rfl)
    (of_decide_eq_true (by kernel_rfl)) (by unfold Func.isWrapper; first | (rw [if_pos (by decide +kernel)]; kernel_rfl) | (rw [if_neg (by decide +kernel)]; exact ⟨rfl, rfl⟩))
    (fun os started H enc _ => lifted11 os started H enc)
theorem bridge_trains_holds : Rows.BridgeTrainsSaid := over11
end Go.Proofs.Ytbdnnicodailcaa

