/- TopBounded: for every input the law returns true -/
import Derived.Test.YtcfomfajpmlleaaGreatP12
import Derived.Test.YtcfomfajpmlleaaGreatRows
import Derived.ShutString
namespace Go.Proofs.YtcfomfajpmlleaaGreat
open Go Sy
set_option maxRecDepth 100000
set_option maxHeartbeats 8000000
set_option linter.unusedVariables false
set_option linter.unusedSimpArgs false
theorem fn4 (bx : List Bx) (l : List R.Tr) (fs : List R.Fx) (a b : Int) (hb : bx.length ≤ 140737488355328) (hl : l.length ≤ 140737488355328) (hf : fs.length ≤ 140737488355328) (h1 : ∀ x ∈ bx, OBx x) (h2 : ∀ t ∈ l, R.OTr t) (h3 : ∀ x ∈ fs, R.OFx x) (ha : 0 ≤ a ∧ a ≤ 255) (hb' : 0 ≤ b ∧ b ≤ 255) :
    Sy.Fn Tryz.prog 4 [aBx bx, R.aTr l, R.aFx fs, .v (.int .u8 a), .v (.int .u8 b)] (bv true) := by
  refine Fn_of_W mixed Xt4 rfl ?_
  have c5 := fn5 bx hb h1
  have c6 := fn6 bx h1
  have c7 := fn7
  have c8 := R.fn8 l fs hl hf h2 h3
  by_cases ho : okS bx = true
  rotate_left
  · have ho : okS bx = false := by rw [← Bool.not_eq_true]; exact ho
    rw [ho] at c6
    have ez : szF bx = fun _ => 0 := by funext k; unfold szF; rw [if_neg (by rw [ho]; decide)]
    rw [ez] at c6
    (refine go_cc c5 c6 ?_; try exact True.intro)
    refine W_cond (by rfl) (fun _ => ?_) (fun h => by cases h)
    (refine go_c c7 ?_; try exact True.intro)
    exact W_ret ⟨[_], ⟨rfl, rfl⟩, rfl⟩
  rw [ho] at c6
  obtain ⟨hz, hn⟩ := szF_rng h1 ho
  have hG := R.atl_gm l fs
  have hC := R.atl_chk h2 h3
  have hmn : (R.atl l fs).n = 5 := rfl
  have hfr : 0 ≤ a % 5 ∧ a % 5 < (R.atl l fs).n := by rw [hmn]; omega
  have hto : 0 ≤ b % 5 ∧ b % 5 < (R.atl l fs).n := by rw [hmn]; omega
  have hsz : R.szE (szF bx) = 0 := by unfold R.szE; rw [if_pos (R.szB_iff.2 hz)]
  have c9 := R.fn9 (R.atl l fs) (szF bx) (a % 5) (b % 5) hG
  obtain ⟨k1, k2, k3⟩ := R.chE_of hC hsz hfr hto
  rw [k2, k3] at c9
  have c11 := R.fn11 (R.atl l fs) (szF bx) (a % 5) (b % 5) hG
  rw [k2] at c11
  have hok := R.chkM_ok hC
  have c12 := R.fn12 (R.atl l fs) (szF bx) (R.evL (R.atl l fs).ws.length) (a % 5) hG (by rw [R.ev_len]; have := hok.nw; omega)
  have ea : a.tmod 5 = a % 5 := Int.tmod_eq_emod_of_nonneg ha.1
  have eb : b.tmod 5 = b % 5 := Int.tmod_eq_emod_of_nonneg hb'.1
  generalize hM : R.atl l fs = m at *
  rcases hbs : R.bestS m (szF bx) (a % 5) (b % 5) with _ | ⟨s, n⟩
  · have hpf := R.plB_of hfr
    have hpt := R.plB_of hto
    have hbn : R.bnV m (szF bx) (a % 5) (b % 5) = [.v (.slice none 0 0), .v (.slice none 0 0)] := by unfold R.bnV; rw [if_neg (by rw [k2, hbs]; decide)]
    rw [hbs] at c9 c11
    rw [hbn] at c11
    unfold R.rtC R.bE R.zRt at c9
    unfold R.bE at c11
    have hnw := hok.nw
    have hn := hok.n
    have hss := R.ev_srt m.ws.length
    have hel := R.ev_len m.ws.length
    have o1 : R.rcE m (szF bx) (R.evL m.ws.length) (a % 5) = 0 := by unfold R.rcE; rw [if_pos k1, if_pos (R.srt_setB hss), if_pos hpf]
    have o2 : R.rcV m (szF bx) (R.evL m.ws.length) (a % 5) = R.rcL m (szF bx) (R.evL m.ws.length) (a % 5) := by unfold R.rcV; rw [if_pos o1]
    rw [o1, o2] at c12
    have hri : b % 5 ∉ R.rcL m (szF bx) (R.evL m.ws.length) (a % 5) := by
      rw [R.reach_iff hok hfr hto]
      rintro ⟨p, hp⟩
      rw [hbs] at hp; cases hp
    have hrc := R.reach_cut hok (f := szF bx) hfr
    have hrs := R.rc_srt m (szF bx) (R.evL m.ws.length) (a % 5)
    have hrl : (R.rcL m (szF bx) (R.evL m.ws.length) (a % 5)).length ≤ 64 := by have := hrs.len (by omega); omega
    have c13 := R.fn13 m (szF bx) (a % 5) (b % 5) (R.rcL m (szF bx) (R.evL m.ws.length) (a % 5)) hG (by omega)
    have hcr : R.ctE m (szF bx) (a % 5) (b % 5) (R.rcL m (szF bx) (R.evL m.ws.length) (a % 5)) = 0 := by
      unfold R.ctE
      rw [if_pos k1, if_pos ⟨hpf, hpt⟩, if_pos (R.srt_setB (by rw [show m.n = (m.n.toNat : Int) by omega]; exact hrs)), if_pos ⟨hrc.1, hri⟩, if_neg (by rw [hrc.2]; decide)]
    rw [hcr] at c13
    generalize R.rcL m (szF bx) (R.evL m.ws.length) (a % 5) = X at *
    clear hcr hrc hri hrs o1 o2 hbn hmn
    (refine go_cc c5 c6 ?_; try exact True.intro)
    refine W_cond (by rfl) (fun h => by cases h) (fun _ => ?_)
    (refine gofccc (ad2 ea eb) c8 c9 c11 ?_; try exact True.intro)
    refine W_cond (by rfl) (fun _ => ?_) (fun h => by cases h)
    (refine go0 ?_; try exact True.intro)
    refine W_le (le_adopt 21 3 1 (0 : Int) R.cI (by omega) rfl) ?_
    (refine sy1 ?_; try exact True.intro)
    refine W_loopU (fun i : Nat => [(21, .row 54 i), (22, iv i)]) (fun i => [(54, .row i 3 1 0 R.cI (R.evL i))]) (fun i => i ≤ m.ws.length) (fun i => m.ws.length - i) 0 (by omega) (by rfl) (by rfl) (fun i hi => ?_)
    have hfs := R.ev_succ i
    have hei := R.ev_len i
    (refine sy1 ?_; try exact True.intro)
    (refine go0 ?_; try exact True.intro)
    refine W_condD (by rfl) (fun h5 => ?_) (fun h5 => ?_)
    · have hlt : i < m.ws.length := by omega
      (refine go0 ?_; try exact True.intro)
      refine ⟨rfl, trivial, Int, 0, R.cI, [(i : Int)], rfl, by omega, fun x _ => ⟨rfl, rfl⟩, rfl, ?_⟩
      (refine sy1 ?_; try exact True.intro)
      refine ⟨rfl, ⟨Nat.le_of_ble_eq_true rfl, rfl⟩, trivial, [(i : Int)], rfl, by first | omega | (simp; omega), by first | omega | (simp; omega), ?_⟩
      (refine sy1 ?_; try exact True.intro)
      (refine go0 ?_; try exact True.intro)
      refine ⟨i + 1, by omega, by omega, by rfl, ?_⟩
      rw [hfs]
      (refine syE ?_; try exact True.intro)
    · obtain rfl : i = m.ws.length := by omega
      refine w1e ?_
      (refine sy1 ?_; try exact True.intro)
      refine w1g ?_
      refine W_le (le_frzR 21 [12, 14, 15, 16, 20] [10, 18] 60 54 m.ws.length 3 1 0 R.cI (R.evL m.ws.length) rfl rfl rfl rfl) ?_
      (refine sy1 ?_; try exact True.intro)
      (refine go_c c12 ?_; try exact True.intro)
      repeat' (first | refine w1g ?_ | refine w1l ?_ | refine w1q ?_ | refine w1b ?_ | refine w1p ?_ | ((first | refine w1r ?_ | refine w1k ?_ | refine w1e ?_ | refine CallC.go _ (fun _ => ⟨trivial, c13⟩) rfl ?_ | refine CallC.go _ (fun _ => ⟨trivial, c7⟩) rfl ?_); simp (maxSteps := 400000) (disch := omega) only [push_cast, ↓reduceIte, reduceCtorEq, Nat.reduceAdd, Nat.reduceSub, Nat.reduceEqDiff, Nat.reduceLeDiff, Nat.reduceLT, Nat.reduceBEq, Nat.reduceDiv, Nat.reduceMod, Nat.reducePow, Nat.reduceMul, Int.reduceToNat, Int.reduceLT, Int.reduceLE, beq_self_eq_true]) | refine an2 ?_ | fail)
      exact W_ret ⟨[_], ⟨rfl, rfl⟩, rfl⟩
  have hR := R.rte_of hC hfr hto hbs
  have hmn := hok.n
  have hnw := hok.nw
  have hnr := hok.nr
  have hpl : R.plB m.n (a % 5) = true ∧ R.plB m.n (b % 5) = true := ⟨R.plB_of hfr, R.plB_of hto⟩
  have hbn : R.bnV m (szF bx) (a % 5) (b % 5) = R.cBd (R.evA m (szF bx) m.ws.length) (R.bnH m (szF bx) (a % 5) (b % 5)) := by unfold R.bnV; rw [if_pos (by rw [k2, hbs]; rfl)]
  rw [hbs] at c9 c11
  rw [hbn] at c11
  have c9 : Sy.Fn Tryz.prog 9 [R.aM m, .agg (R.c6 (szF bx)), iv (a % 5), iv (b % 5)] (.tup [.agg [R.aI (R.wayS m (szF bx) (a % 5) (b % 5) s), R.aI s, iv n, iv (R.minL m (R.wayS m (szF bx) (a % 5) (b % 5) s))], iv 0]) := c9
  have c11 : Sy.Fn Tryz.prog 11 [R.aM m, .agg (R.c6 (szF bx)), iv (a % 5), iv (b % 5)] (.tup [.agg [R.aP (R.evA m (szF bx) m.ws.length), R.aI (R.bnH m (szF bx) (a % 5) (b % 5))], iv 0]) := c11
  have hPl := Nat.le_trans (R.evA_len m (szF bx) m.ws.length) (Nat.mul_le_mul (Nat.mul_le_mul (Nat.le_refl 6) hnr) hnw)
  have hBl := R.bnH_len hok (szF bx) (a % 5) (b % 5) hfr
  have hrt := R.even_right hok hfr hto hbs
  have hwo := R.even_worth hok hfr hto hbs
  have hmo := R.most_fin hok hfr hto hbs
  have hle := R.proof_le hok hfr hto hbs hrt
  have hE0 : R.bdE m (szF bx) (a % 5) (b % 5) (R.evA m (szF bx) m.ws.length) (R.bnH m (szF bx) (a % 5) (b % 5)) = 0 := by unfold R.bdE; rw [if_pos k1, if_pos hpl, if_pos hBl, if_pos hrt]
  have hV0 : R.bdV m (szF bx) (a % 5) (b % 5) (R.evA m (szF bx) m.ws.length) (R.bnH m (szF bx) (a % 5) (b % 5)) = R.gi (R.bnD m (szF bx) (a % 5)) (b % 5).toNat := by unfold R.bdV; rw [if_pos hE0, hwo]
  have c14 := R.fn14 m (szF bx) (a % 5) (b % 5) (R.evA m (szF bx) m.ws.length) (R.bnH m (szF bx) (a % 5) (b % 5)) hG (by omega) (by omega)
  rw [hE0, hV0] at c14
  unfold R.cBd at c14
  rw [hwo] at hle
  have hrd : R.rdE m (R.wayS m (szF bx) (a % 5) (b % 5) s) = 0 := by
    unfold R.rdE
    rw [if_neg (by have := hR.len; omega), if_neg]
    rw [Bool.not_eq_true, List.any_eq_false]
    intro x hx
    have := hR.rg x hx
    unfold R.plB
    rw [decide_eq_true this.1, decide_eq_true this.2]
    decide
  have hsl := hR.srt.len (by omega)
  have c15 := R.fn15 m (szF bx) s (R.wayS m (szF bx) (a % 5) (b % 5) s) hG (by omega) (by have := hR.len; omega)
  have f0 : R.csE m (szF bx) s (R.wayS m (szF bx) (a % 5) (b % 5) s) = 0 := by unfold R.csE; rw [if_pos k1, if_pos (R.srt_setB hR.srt), hrd]
  have f1 : R.csV m (szF bx) s (R.wayS m (szF bx) (a % 5) (b % 5) s) = [] := by
    unfold R.csV
    rw [if_pos f0]
    exact List.length_eq_zero_iff.1 (R.czR_nil.2 (R.allU_of hR.us))
  rw [f0, f1] at c15
  have d1 : decide (0 ≤ R.gi (R.bnD m (szF bx) (a % 5)) (b % 5).toNat) = true := decide_eq_true hmo.1
  have d2 : decide (R.gi (R.bnD m (szF bx) (a % 5)) (b % 5).toNat ≤ n) = true := decide_eq_true hle
  clear hR f0 f1 hrd hle hwo hrt hE0 hV0 hBl hPl hbn hmo
  generalize R.gi (R.bnD m (szF bx) (a % 5)) (b % 5).toNat = MT at *
  generalize R.evA m (szF bx) m.ws.length = PS at *
  generalize R.bnH m (szF bx) (a % 5) (b % 5) = BH at *
  generalize R.minL m (R.wayS m (szF bx) (a % 5) (b % 5) s) = ML at *
  generalize R.wayS m (szF bx) (a % 5) (b % 5) s = WS at *
  (refine go_cc c5 c6 ?_; try exact True.intro)
  refine W_cond (by rfl) (fun h => by cases h) (fun _ => ?_)
  (refine gofccc (ad2 ea eb) c8 c9 c11 ?_; try exact True.intro)
  refine W_cond (by rfl) (fun h => by cases h) (fun _ => ?_)
  repeat' (first | refine w1g ?_ | refine w1l ?_ | refine w1q ?_ | refine w1b ?_ | refine w1p ?_ | ((first | refine w1r ?_ | refine w1k ?_ | refine w1e ?_); simp (maxSteps := 400000) (disch := omega) only [push_cast, ↓reduceIte, reduceCtorEq, Nat.reduceAdd, Nat.reduceSub, Nat.reduceEqDiff, Nat.reduceLeDiff, Nat.reduceLT, Nat.reduceBEq, Nat.reduceDiv, Nat.reduceMod, Nat.reducePow, Nat.reduceMul, Int.reduceToNat, Int.reduceLT, Int.reduceLE, bne_self_eq_false]) | refine an2 ?_ | fail)
  refine W_cond (by rfl) (fun h => by cases h) (fun _ => ?_)
  repeat' (first | refine w1g ?_ | refine w1l ?_ | refine w1q ?_ | refine w1b ?_ | refine w1p ?_ | ((first | refine w1r ?_ | refine w1k ?_ | refine w1e ?_ | refine CallC.now (c14) ?_ | refine CallC.now (c15) ?_ | refine CallC.go _ (fun _ => ⟨trivial, c7⟩) rfl ?_); simp (maxSteps := 400000) (disch := omega) only [push_cast, ↓reduceIte, reduceCtorEq, Nat.reduceAdd, Nat.reduceSub, Nat.reduceEqDiff, Nat.reduceLeDiff, Nat.reduceLT, Nat.reduceBEq, Nat.reduceDiv, Nat.reduceMod, Nat.reducePow, Nat.reduceMul, Int.reduceToNat, Int.reduceLT, Int.reduceLE, d1, d2, beq_self_eq_true]) | refine an2 ?_ | fail)
  exact W_ret ⟨[_], ⟨rfl, rfl⟩, rfl⟩
end Go.Proofs.YtcfomfajpmlleaaGreat

namespace Go.Proofs.YtcfomfajpmlleaaGreat
open Go Sy Go.ChangeShapes Go.WideShapes Go.RowKit
set_option maxRecDepth 100000
set_option linter.unusedVariables false
theorem own : ownKnob Tryz.prog.godebug = none := by kernel_rfl
theorem laidOut : laidOutB Tryz.prog = true := by kernel_rfl
theorem walk4 (W : World) (v0 v1 v2 v3 v4 : Value) (bx : List Bx) (l : List R.Tr) (fs : List R.Fx) (a : Int) (b : Int) (h0 : fsat (inW W) W (aBx bx) v0) (h1 : fsat (inW W) W (R.aTr l) v1) (h2 : fsat (inW W) W (R.aFx fs) v2) (h3 : fsat (inW W) W (.v (.int .u8 a)) v3) (h4 : fsat (inW W) W (.v (.int .u8 b)) v4) (obx : bx.length * 8 ≤ 140737488351232 ∧ ∀ b ∈ bx, OBx b) (ol : l.length * 8 ≤ 140737488351232 ∧ ∀ b ∈ l, R.OTr b) (ofs : fs.length * 4 ≤ 140737488351232 ∧ ∀ b ∈ fs, R.OFx b) (oa : 0 ≤ a ∧ a ≤ 255) (ob : 0 ≤ b ∧ b ≤ 255) :
    Calls Tryz.prog 4 #[v0, v1, v2, v3, v4] W fun e w' => e = .returned (.bool true) ∧ Below W.heap.size W w' := by
  have hf : Sy.Fn Tryz.prog 4 [aBx bx, R.aTr l, R.aFx fs, .v (.int .u8 a), .v (.int .u8 b)] (bv true) := fn4 bx l fs a b (by have := obx.1; omega) (by have := ol.1; omega) (by have := ofs.1; omega) obx.2 ol.2 ofs.2 oa ob
  refine (hf.2 (inW W) W [v0, v1, v2, v3, v4] (fun b hb => hb) ?_).mono ?_
  · simp only [fsatT]
    exact ⟨v0, _, rfl, h0, v1, _, rfl, h1, v2, _, rfl, h2, v3, _, rfl, h3, v4, _, rfl, h4, rfl⟩
  · rintro e w' ⟨v, rfl, hb, hv⟩
    simp only [fsat] at hv
    exact ⟨by rw [hv], hb⟩
theorem lifted4 (os : Os) (started : os.Started) (H : Type) (enc : TypeId × Value → H) :
    ReturnsInHanded {} Tryz.checked os 4 .any (Rows.topBoundedSpec.pre6 enc Tryz.prog Tryz.f4 Rows.topBoundedRow.domain false) (Rows.topBoundedSpec.post enc Tryz.prog Tryz.f4 false true false false) := by
  refine returnsInHanded_of_change_sized (C := Tryz.checked) own started (by kernel_rfl) Tryz.func4
    (ChangeSpec.witness6 (enc := enc) (C := Tryz.checked) false ⟨#[], #[.slice none 0 0, .slice none 0 0, .slice none 0 0, .int .u8 0, .int .u8 0], []⟩ 8 (by kernel_rfl) (by kernel_rfl) (by kernel_rfl) (by kernel_rfl)) ?_
  intro W base args ds gs before hval0 hW hcnd hsz _
  have hval : ∀ (j : Nat) t v, Tryz.f4.params[j]? = some t → args[j]? = some v → Value.okWide Tryz.prog W .any base t v := hval0
  have hW' := hW
  obtain ⟨p, q, hA0, hV, rfl, hfz, hnd⟩ := hW
  have hA : DataW.TrodAll enc Tryz.prog W 0 (fun _ => true) true Tryz.f4.params.toList args.toList ds p := hA0
  rw [Tryz.params4] at hA hval
  obtain ⟨v0, vs0, d0, ds0, p0, q0, hargs, rfl, rfl, h0, r0⟩ := trodAll_cons hA
  obtain ⟨v1, vs1, d1, ds1, p1, q1, rfl, rfl, rfl, h1, r1⟩ := trodAll_cons r0
  obtain ⟨v2, vs2, d2, ds2, p2, q2, rfl, rfl, rfl, h2, r2⟩ := trodAll_cons r1
  obtain ⟨v3, vs3, d3, ds3, p3, q3, rfl, rfl, rfl, h3, r3⟩ := trodAll_cons r2
  obtain ⟨v4, vs4, d4, ds4, p4, q4, rfl, rfl, rfl, h4, r4⟩ := trodAll_cons r3
  obtain ⟨rfl, rfl, rfl⟩ := trodAll_nil r4
  obtain rfl : args = #[v0, v1, v2, v3, v4] := by cases args; simp_all
  obtain ⟨rfl, rfl⟩ := trodVars_none hV
  have hs : ∀ (j : Nat) t (d : DataW H), [22, 23, 24, 5, 5][j]? = some t → [d0, d1, d2, d3, d4][j]? = some d → ∀ n ∈ d.weights Tryz.prog t, n ≤ reachBytes := fun j t d ht hd n hn => by
    have hall := List.all_eq_true.1 hsz n (DataW.weights_mem_each (j := j) (t := t) (d := d) (by rw [Tryz.params4]; simpa using (List.getElem?_append_left (l₂ := _) (by have := (List.getElem?_eq_some_iff.1 ht).1; simpa using this)).trans ht) (by simpa using (List.getElem?_append_left (l₂ := _) (by have := (List.getElem?_eq_some_iff.1 hd).1; simpa using this)).trans hd) n hn)
    simpa using hall
  have lt0 : ∀ x ∈ p0, x.block < W.heap.size := by obtain ⟨m, hm⟩ := h0; exact DataW.trod_lt m _ _ _ hm
  have lt1 : ∀ x ∈ p1, x.block < W.heap.size := by obtain ⟨m, hm⟩ := h1; exact DataW.trod_lt m _ _ _ hm
  have lt2 : ∀ x ∈ p2, x.block < W.heap.size := by obtain ⟨m, hm⟩ := h2; exact DataW.trod_lt m _ _ _ hm
  have lt3 : ∀ x ∈ p3, x.block < W.heap.size := by obtain ⟨m, hm⟩ := h3; exact DataW.trod_lt m _ _ _ hm
  have lt4 : ∀ x ∈ p4, x.block < W.heap.size := by obtain ⟨m, hm⟩ := h4; exact DataW.trod_lt m _ _ _ hm
  obtain ⟨bx, obx, s0⟩ := k22.arg1 (by kernel_rfl) (hval 0 22 v0 rfl rfl) h0 (hs 0 22 d0 rfl rfl)
  obtain ⟨l, ol, s1⟩ := k23.arg1 (by kernel_rfl) (hval 1 23 v1 rfl rfl) h1 (hs 1 23 d1 rfl rfl)
  obtain ⟨fs, ofs, s2⟩ := k24.arg1 (by kernel_rfl) (hval 2 24 v2 rfl rfl) h2 (hs 2 24 d2 rfl rfl)
  obtain ⟨a, oa, s3⟩ := k5.arg1 (by kernel_rfl) (hval 3 5 v3 rfl rfl) h3 (hs 3 5 d3 rfl rfl)
  obtain ⟨b, ob, s4⟩ := k5.arg1 (by kernel_rfl) (hval 4 5 v4 rfl rfl) h4 (hs 4 5 d4 rfl rfl)
  clear hA0 hval0
  refine (walk4 W v0 v1 v2 v3 v4 bx l fs a b s0 s1 s2 s3 s4 obx ol ofs oa ob).mono fun e W' ⟨he, bel⟩ => ?_
  subst he
  exact ⟨_, rfl, _, _, _, [], _, [], hW', trodAll_mk1 (shut_bool Tryz.underlying4 _), (trodAll_cons_mk (Below.trod laidOut (by kernel_rfl) (of_decide_eq_true (by kernel_rfl)) h0 bel lt0) (trodAll_cons_mk (Below.trod laidOut (by kernel_rfl) (of_decide_eq_true (by kernel_rfl)) h1 bel lt1) (trodAll_cons_mk (Below.trod laidOut (by kernel_rfl) (of_decide_eq_true (by kernel_rfl)) h2 bel lt2) (trodAll_cons_mk (Below.trod laidOut (by kernel_rfl) (of_decide_eq_true (by kernel_rfl)) h3 bel lt3) (trodAll_cons_mk (Below.trod laidOut (by kernel_rfl) (of_decide_eq_true (by kernel_rfl)) h4 bel lt4) trodAll_mk0))))), rfl, bel.frame _, fun h => by cases h⟩
theorem over4 : Rows.topBoundedRow.holds Tryz.pinned (OpenSpec.ofChange Rows.topBoundedSpec) :=
  OpenClaim.holds_of_wide 4 Tryz.f4 rfl rfl rfl rfl rfl rfl rfl ⟨rfl, rfl, rfl, rfl, rfl⟩ rfl rfl rfl rfl rfl (by kernel_rfl) Tryz.func4 (by kernel_rfl)
    (of_decide_eq_true (by kernel_rfl)) (by unfold Func.isWrapper; first | (rw [if_pos (by decide +kernel)]; kernel_rfl) | (rw [if_neg (by decide +kernel)]; exact ⟨rfl, rfl⟩))
    (fun os started H enc _ => lifted4 os started H enc)
theorem top_bounded_holds : Rows.TopBoundedSaid := over4
end Go.Proofs.YtcfomfajpmlleaaGreat

