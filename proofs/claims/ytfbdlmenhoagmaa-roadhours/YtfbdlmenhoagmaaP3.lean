/- Part 3 of the proof of: RoadHours: for every input the law returns true; each argument reads behind the call as it read before. -/
import Derived.Test.YtfbdlmenhoagmaaP2
namespace Sy
open Go Go.RowKit
set_option linter.unusedVariables false
set_option linter.unusedSimpArgs false
section
variable {P : Program} {r : Option Nat} {nf : Nat} {G : Gl} {tm : Nat → AV} {mem : Nat → Option Blk} {E : Env} {a : Act} {w : World} {o : Oper}
theorem Sat.setM (S : Sat G tm mem E a w) {k b kd : Nat} {g g' : Value → Option Value} (hk : mem k = some (.oth (.mp b kd g))) {es : Array MapEntry} {cl : Nat} (hM : MapIs kd es.toList g') :
    Sat G tm (upd mem k (some (.oth (.mp b kd g')))) E a (w.putObj b (.map es cl)) := by
  obtain ⟨h1, es0, cl0, h2, h3⟩ := S.memv k _ hk
  have hlt : b < w.heap.size := (Array.getElem?_eq_some_iff.1 h2).1
  have hlF : ¬ E.F b := S.nF k _ b hk rfl
  have hFs : ∀ c, E.F c → (w.putObj b (.map es cl)).heap[c]? = w.heap[c]? := fun c hc => putD_other (fun e => hlF (e ▸ hc))
  have hof : ∀ j blk, upd mem k (some (Blk.oth (.mp b kd g'))) j = some blk → (j = k ∧ blk = .oth (.mp b kd g')) ∨ (j ≠ k ∧ mem j = some blk) := fun j blk h => by
    simp only [upd] at h
    split at h
    · rename_i he; cases h; exact .inl ⟨he, rfl⟩
    · rename_i he; exact .inr ⟨he, h⟩
  exact {
    ext := ⟨S.ext.os, S.ext.tape, S.ext.output, by rw [putD_size]; exact S.ext.size, fun i hi => (putD_other (by omega)).trans (S.ext.block i hi)⟩
    fz := fun c hc => by rw [putD_size]; exact S.fz c hc
    tmv := fun t => sat_mono (Env.le.refl E) hFs _ _ (S.tmv t)
    sz := S.sz
    memv := fun j blk h => by
      rcases hof j blk h with ⟨rfl, rfl⟩ | ⟨hj, q⟩
      · exact ⟨h1, es, cl, World.putObj_heap_same hlt, hM⟩
      · refine blkSat_mono (Env.le.refl E) hFs blk (fun c hc => putD_other (fun e => hj ?_)) (S.memv j blk q)
        exact S.inj j k blk _ b q hk (e ▸ hc) rfl
    inj := fun j j' blk blk' c h h' hc hc' => by
      rcases hof j blk h with ⟨g1, g2⟩ | ⟨hj, q⟩
      · rcases hof j' blk' h' with ⟨g1', g2'⟩ | ⟨hj', q'⟩
        · rw [g1, g1']
        · subst g2; rw [g1]; exact S.inj k j' _ blk' c hk q' hc hc'
      · rcases hof j' blk' h' with ⟨g1', g2'⟩ | ⟨hj', q'⟩
        · subst g2'; rw [g1']; exact S.inj j k blk _ c q hk hc hc'
        · exact S.inj j j' blk blk' c q q' hc hc'
    nF := fun j blk c h hc => by
      rcases hof j blk h with ⟨g1, g2⟩ | ⟨hj, q⟩
      · subst g2; exact S.nF k _ c hk hc
      · exact S.nF j blk c q hc
    fresh := fun j h => by
      simp only [upd] at h
      split at h
      · cases h
      · exact S.fresh j h
    stampC := fun j l' s' h => by
      rcases hof j _ h with ⟨_, q⟩ | ⟨hj, q⟩
      · cases q
      · exact S.stampC j l' s' q
    stampR := fun j s' e n α d f l' h => by
      rcases hof j _ h with ⟨_, q⟩ | ⟨hj, q⟩
      · cases q
      · exact S.stampR j s' e n α d f l' q
    stampO := fun j x h => by
      rcases hof j _ h with ⟨g1, _⟩ | ⟨hj, q⟩
      · rw [g1]; exact S.stampO k _ hk
      · exact S.stampO j x q
    df := fun d hd => by
      obtain ⟨D, rfl, q1, q2, q3⟩ := S.df d hd
      exact ⟨D, rfl, q1, q2, (putD_other (fun e => by subst e; rw [q3] at h2; cases h2)).trans q3⟩
    dn := S.dn
    kd := ⟨by rw [putD_size]; exact S.kd.size, fun j x hj => by
        have := S.kd.dfr j x hj
        exact (putD_other (fun e => by subst e; rw [this] at h2; cases h2)).trans this, fun j rec hj => by
        obtain ⟨rec', hr⟩ := S.kd.lps j rec hj
        exact ⟨rec', (putD_other (fun e => by subst e; rw [hr] at h2; cases h2)).trans hr⟩⟩
    kF := S.kF
    rd := fun j hj => by
      obtain ⟨rec', hr⟩ := S.rd j hj
      exact ⟨rec', (putD_other (fun e => by subst e; rw [hr] at h2; cases h2)).trans hr⟩ }
theorem ok1_mk (S : Sat G tm mem E a w) {nx T kd : Nat} (hnx : mem nx = none) (ho : o.op = .makeMap T none) :
    Ok1 P r nf G tm mem E a w o (.v (.map (some w.heap.size))) (some (nx, .oth (.mp w.heap.size kd fun _ => none))) := fun K Q hK => by
  have hbel : Below w.heap.size w (w.alloc (.map #[] 0)) := (Below.refl _ w).alloc (Nat.le_refl _) _
  have hfr := S.fresh nx hnx
  have hlt : ∀ k blk b, mem k = some blk → blkLoc E k blk = some b → b < w.heap.size := fun k blk b hk hb => (blkLoc_lt blk (S.memv k blk hk) b hb).2
  have hw0 : G.w0.heap.size ≤ w.heap.size := S.ext.size
  have step := S.step nx (.oth (.mp w.heap.size kd fun _ => none)) E (w.alloc (.map #[] 0)) (Env.le.refl E) (fun b hb => hbel.block b (S.fz b hb).1) (keeps_grow hbel) (S.ext.trans (hbel.mono hw0))
    (fun b hb => ⟨Nat.lt_of_lt_of_le (S.fz b hb).1 hbel.size, (S.fz b hb).2⟩) (fun k _ => ⟨rfl, fun _ => rfl⟩)
    (fun k blk b hk hkm hb => ⟨hbel.block b (hlt k blk b hkm hb), S.nF k blk b hkm hb⟩)
    ⟨hw0, #[], 0, World.alloc_heap_new w _, mapIs_nil kd⟩
    (fun b hb => by
      cases hb
      exact ⟨fun hF => absurd (S.fz _ hF).1 (by omega), fun k blk _ hkm hb' => absurd (hlt k blk _ hkm hb') (by omega)⟩)
    (fun l' s' hh => by cases hh) (fun s' e n α d f l' hh => by cases hh) (fun y hy => hfr)
  refine exec_val (v := .map (some w.heap.size)) (w' := w.alloc (.map #[] 0)) (by simp [ho]) (by simp [execOp, ho, run_makeMap]) (hK E _ _ (Env.le.refl E) step (by simp only [sat]))
theorem ok1_up (S : Sat G tm mem E a w) {j b T kd : Nat} {g : Value → Option Value} {m k x : Operand} {kv xv z : Value} (hj : mem j = some (.oth (.mp b kd g))) (hT : mapB P T = some (kd, z)) (ho : o.op = .mapUpdate T m k x ∨ o.op = .insert T m k x)
    (hm : a.eval m = .map (some b)) (hk : a.eval k = kv) (hok : okK kd kv) (hx : a.eval x = xv) : Ok1 P r nf G tm mem E a w o (.v undef) (some (j, .oth (.mp b kd (updG g kv xv)))) := fun K Q hK => by
  obtain ⟨kt, et, i, q1, q2, q3, q4⟩ := mapB_some hT
  obtain ⟨h1, hs⟩ := S.memv j _ hj
  obtain ⟨es, cl, h2, h3⟩ := run_update (P := P) q1 q2 hs hok xv
  refine exec_skip (w' := w.putObj b (.map es cl)) (by rcases ho with ho | ho <;> simp [ho]) ?_ (hK E _ _ (Env.le.refl E) (S.setM hj h3) (by simp only [sat]))
  rcases ho with ho | ho <;> simp [execOp, ho, hm, hk, hx, h2]
theorem ok1_lk (S : Sat G tm mem E a w) {j b T kd : Nat} {g : Value → Option Value} {m k : Operand} {kv z : Value} {ok : Bool} (hj : mem j = some (.oth (.mp b kd g))) (hT : mapB P T = some (kd, z)) (ho : o.op = .lookup T m k ok)
    (hm : a.eval m = .map (some b)) (hk : a.eval k = kv) (hok : okK kd kv) : Ok1 P r nf G tm mem E a w o (outM ok z g kv) none := by
  obtain ⟨kt, et, i, q1, q2, q3, q4⟩ := mapB_some hT
  obtain ⟨h1, hs⟩ := S.memv j _ hj
  refine ok1_pure S (by simp [ho]) ?_ (outM_sat ok z g kv)
  simp [execOp, ho, hm, hk, run_lookup (P := P) q1 q2 q3 q4 hs hok ok]
end
def SpM (P : Program) (ro : RO) (s : S) (K : S → Prop) : Prop :=
  ∃ p, pathOf s.tm ro.gp = some p ∧ underAll p s.tm ro.op.uops ∧ match ro.op with
    | .mkm T kd => p = [] ∧ ∀ b, K (s.app ro.dst [] (.v (.map (some b))) (some (s.nx, .oth (.mp b kd fun _ => none))))
    | .mup T kd m k x => p = [] ∧ ∃ j b g kv xv, strip (ev s.tm m) = .v (.map (some b)) ∧ lm s.mem j = some (.oth (.mp b kd g)) ∧ keyV (strip (ev s.tm k)) = some kv ∧ okK kd kv ∧ strip (ev s.tm x) = .v xv ∧
        K (s.app ro.dst [] (.v undef) (some (j, .oth (.mp b kd (updG g kv xv)))))
    | .mlk T kd z m k ok => ∃ j b g kv, strip (ev s.tm m) = .v (.map (some b)) ∧ lm s.mem j = some (.oth (.mp b kd g)) ∧ keyV (strip (ev s.tm k)) = some kv ∧ (pc p → okK kd kv) ∧ K (s.app ro.dst p (outM ok z g kv) none)
    | _ => False
section
variable {P : Program} {r : Option Nat} {nf N : Nat} {fz : List Nat} {G : Gl} {ops : Array Oper} {rl : List RO} {E : Env} {a : Act} {w : World} {o : Oper}
theorem trR_mkm {f : Bool} {op : Op} {T kd : Nat} (h : trR P f op = some (.mkm T kd)) : op = .makeMap T none := by
  unfold trR at h
  simp only [Option.some.injEq] at h
  split at h
  · rename_i r1 h1
    subst h
    unfold trR0 at h1
    repeat' (first | (split at h1) | (simp only [Option.some.injEq, reduceCtorEq, R.mkm.injEq] at h1; done))
    all_goals first
      | (simp only [Option.some.injEq, reduceCtorEq] at h1; done)
      | (simp only [Option.some.injEq, R.mkm.injEq] at h1; obtain ⟨rfl, _⟩ := h1; rfl)
  · cases h
theorem trR_mup {f : Bool} {op : Op} {T kd : Nat} {m k x : Operand} (h : trR P f op = some (.mup T kd m k x)) : ∃ z, mapB P T = some (kd, z) ∧ (op = .mapUpdate T m k x ∨ op = .insert T m k x) := by
  unfold trR at h
  simp only [Option.some.injEq] at h
  split at h
  · rename_i r1 h1
    subst h
    unfold trR0 at h1
    repeat' (first | (split at h1) | (simp only [Option.some.injEq, reduceCtorEq, R.mup.injEq] at h1; done))
    all_goals first
      | (simp only [Option.some.injEq, reduceCtorEq] at h1; done)
      | (simp only [Option.some.injEq, R.mup.injEq] at h1; obtain ⟨rfl, rfl, rfl, rfl, rfl⟩ := h1; first | exact ⟨_, by assumption, .inl rfl⟩ | exact ⟨_, by assumption, .inr rfl⟩)
  · cases h
theorem trR_mlk {f : Bool} {op : Op} {T kd : Nat} {z : Value} {m k : Operand} {ok : Bool} (h : trR P f op = some (.mlk T kd z m k ok)) : mapB P T = some (kd, z) ∧ op = .lookup T m k ok := by
  unfold trR at h
  simp only [Option.some.injEq] at h
  split at h
  · rename_i r1 h1
    subst h
    unfold trR0 at h1
    repeat' (first | (split at h1) | (simp only [Option.some.injEq, reduceCtorEq, R.mlk.injEq] at h1; done))
    all_goals first
      | (simp only [Option.some.injEq, reduceCtorEq] at h1; done)
      | (simp only [Option.some.injEq, R.mlk.injEq] at h1; obtain ⟨rfl, rfl, rfl, rfl, rfl, rfl⟩ := h1; exact ⟨by assumption, rfl⟩)
  · cases h
theorem there_of {s : S} (h : ∀ k, s.nx ≤ k → lm s.mem k = none) {j : Nat} {b : Blk} (hj : lm s.mem j = some b) : there s j := by
  refine ⟨?_, (hasM_iff _ _).2 (by rw [hj]; simp)⟩
  rcases Nat.lt_or_ge j s.nx with q | q
  · exact q
  · rw [h j q] at hj; cases hj
theorem under_strip {x : AV} {y : Value} {p : Path} (hu : under p x) (hp : pc p) (hs : sat E w x y) : sat E w (strip x) y := by
  cases x with
  | gd q a =>
    simp only [under] at hu
    simp only [sat] at hs
    exact hs.1 (pc_covers hp hu)
  | _ => exact hs
theorem spm_step (hG : G.N = N) {ro : RO} {s : S} {K : S → Prop} (h2 : TrO P N fz ops o ro) (hS : SatS G s E a w) (hsp : SpM P ro s K) (Kc : Act → World → Prop) (Q : Exit → Act → World → Prop) (hK : ∀ s' E' a' w', K s' → SatS G s' E' a' w' → Kc a' w') :
    if Region.wanted o (yielded ops a.tmps) then o.wpIn (W1 r) nf P a w Kc Q else (∀ f, o.about P w a.eval = some f → (W1 r).fn f) ∧ Kc (a.put o.dst undef) w := by
  obtain ⟨p, hp, hu, hx⟩ := hsp
  have hslots : ∀ x, sat E w (ev s.tm x) (a.eval x) := fun x => ev_sat hS.st x (fun t _ => rfl)
  obtain ⟨f0, hop⟩ := h2.op
  have fin : ∀ (out : AV) (u : Option (Nat × Blk)), okU p s u → (pc p → Ok1 P r nf G (lk s.tm) (lm s.mem) E a w o out u) → K (s.app ro.dst p out u) → (if Region.wanted o (yielded ops a.tmps) then o.wpIn (W1 r) nf P a w Kc Q else (∀ f, o.about P w a.eval = some f → (W1 r).fn f) ∧ Kc (a.put o.dst undef) w) := fun out u hok h1 hk => by
    have hG1 : GOk P r nf G (lk s.tm) (lm s.mem) E a w ops o (gdd p out) u := gok_of hS.st h2.gd (by rw [← pathOf_eq]; exact hp) (fun g b hg => hslots _) hok h1
    refine hG1 Kc Q (fun E' w' v h3 h4 h5 => ?_)
    have hS' := satS_app (dst := o.dst) (p := p) hS.nx h4 h5 hok (fun d hd => by rw [hG]; exact h2.lt d hd)
    rw [h2.dst] at hk
    exact hK _ E' _ w' hk hS'
  cases hro : ro.op <;> rw [hro] at hx hop hu <;> (try exact hx.elim)
  · rename_i T kd
    obtain ⟨rfl, hk⟩ := hx
    exact fin (.v (.map (some w.heap.size))) (some (s.nx, .oth (.mp w.heap.size kd fun _ => none))) ⟨rfl, .inl rfl⟩ (fun _ => ok1_mk hS.st (hS.nx _ (Nat.le_refl _)) (trR_mkm hop)) (hk w.heap.size)
  · rename_i T kd m k x
    obtain ⟨rfl, j, b, g, kv, xv, e1, e2, e3, e4, e5, hk⟩ := hx
    obtain ⟨z, q1, q2⟩ := trR_mup hop
    simp only [R.uops, R.opds, underAll, and_true] at hu
    have s1 := under_strip hu.1 (trivial : pc []) (hslots m)
    have s2 := under_strip hu.2.1 (trivial : pc []) (hslots k)
    have s3 := under_strip hu.2.2 (trivial : pc []) (hslots x)
    rw [e1] at s1
    rw [e5] at s3
    simp only [sat] at s1 s3
    exact fin (.v undef) (some (j, .oth (.mp b kd (updG g kv xv)))) ⟨rfl, .inr (there_of hS.nx e2)⟩ (fun _ => ok1_up hS.st e2 q1 q2 s1 (keyV_sat e3 s2) e4 s3) hk
  · rename_i T kd z m k ok
    obtain ⟨j, b, g, kv, e1, e2, e3, e4, hk⟩ := hx
    obtain ⟨q1, q2⟩ := trR_mlk hop
    simp only [R.uops, R.opds, underAll, and_true] at hu
    refine fin (outM ok z g kv) none trivial (fun hpc => ?_) hk
    have s1 := under_strip hu.1 hpc (hslots m)
    have s2 := under_strip hu.2 hpc (hslots k)
    rw [e1] at s1
    simp only [sat] at s1
    exact ok1_lk hS.st e2 q1 q2 s1 (keyV_sat e3 s2) (e4 hpc)
def chainX (P : Program) : List Nat → List RO → S → (S → Prop) → Prop
  | [], rl, s, K => chain P none rl s K
  | n :: ns, rl, s, K => chain P none (rl.take n) s (fun s1 => match rl.drop n with
    | [] => False
    | ro :: rest => SpM P ro s1 (fun s2 => chainX P ns rest s2 K))
theorem inorderX (hG : G.N = N) (hrl : trL P N fz ops ops.toList = some rl) {Q : Exit → Act → World → Prop} {K : S → Prop} (hK : ∀ s E a w, K s → SatS G s E a w → Q .normal a w) :
    ∀ (ns : List Nat) (i m : Nat) (s : S) (E : Env) (a : Act) (w : World), i + m = ops.size → chainX P ns (rl.drop i) s K → SatS G s E a w → wpOpsIn (W1 r) nf P ops Q (List.range' i m) a w
  | [], i, m, s, E, a, w, hi, hc, hS => inorder hG hrl hK m i s E a w hi hc hS
  | n :: ns, i, m, s, E, a, w, hi, hc, hS => by
    obtain ⟨hl, hsp⟩ := trL_spec hrl
    have hlen : rl.length = ops.size := by rw [hl, Array.length_toList]
    simp only [chainX] at hc
    rcases Nat.lt_or_ge n m with hn | hn
    rotate_left
    · -- there is none left
      have hd : (rl.drop i).drop n = [] := List.drop_eq_nil_of_le (by rw [List.length_drop]; omega)
      rw [hd] at hc
      have h1 := inorder_part (r := r) (nf := nf) (Q := Q) (m := 0) (e := i + m) hG hrl (K := fun _ => False) (fun s1 E1 a1 w1 hk hS1 => hk.elim) m i s E a w rfl (by omega) (by
        rw [List.take_of_length_le (by rw [List.length_drop]; omega)] at hc
        rwa [List.take_of_length_le (by rw [List.length_drop]; omega)]) hS
      rwa [Nat.add_zero] at h1
    · have h1 := inorder_part (r := r) (nf := nf) (Q := Q) (m := m - n) (e := i + n) hG hrl (K := fun s1 => match (rl.drop i).drop n with
        | [] => False
        | ro :: rest => SpM P ro s1 (fun s2 => chainX P ns rest s2 K)) (fun s1 E1 a1 w1 hk hS1 => by
          have hil : i + n < ops.size := by omega
          obtain ⟨ro, g1, g2⟩ := hsp (i + n) ops[i + n] (by simp [hil])
          have hdrop : (rl.drop i).drop n = ro :: rl.drop (i + n + 1) := by
            rw [List.drop_drop]
            have hlt : i + n < rl.length := by omega
            rw [List.drop_eq_getElem_cons hlt]
            congr 1
            rw [List.getElem?_eq_getElem hlt] at g1
            simpa using g1
          rw [hdrop] at hk
          simp only [] at hk
          rw [show m - n = (m - n - 1) + 1 by omega, List.range'_succ, wpOpsIn_cons]
          unfold wpOpIn
          simp only [Array.getElem?_eq_getElem hil]
          exact spm_step hG g2 hS1 hk _ Q (fun s' E' a' w' hc' hS' => inorderX hG hrl hK ns (i + n + 1) (m - n - 1) s' E' a' w' (by omega) hc' hS')) n i s E a w rfl (by omega) hc hS
      rwa [show n + (m - n) = m by omega] at h1
end
section
variable {P : Program} {N : Nat} {s : S} {Q : Ex → S → Prop}
theorem W_regX {rl : List RO} {ks : List Nat} (ns : List Nat) (h : chainX P ns rl s (fun s' => Q .n (s'.keep ks))) : W P N (regL ks none rl) s Q := by
  intro hm code fz ht r nf G E x w hG hS
  obtain ⟨id, ops, d, rfl, hrl, hd⟩ := trC_reg ht
  rcases hd with ⟨rfl, hx⟩ | ⟨rfl, hx, hE, hO⟩
  · refine wpIn_region ?_
    rw [List.range_eq_range']
    exact inorderX hG.1 hrl (K := fun s' => Q .n (s'.keep ks)) (fun s E a w hk hS => ⟨_, E, hk, keep_sat ks hS⟩) ns 0 ops.size s E x w (by omega) (by rw [List.drop_zero]; exact h) hS
  · cases hx
end
end Sy

namespace Sy
open Go Go.RowKit
set_option linter.unusedVariables false
set_option linter.unusedSimpArgs false
set_option maxHeartbeats 1000000
def covZ (n z : Nat) (ms : List Nat) : Bool := (ms.drop n).all fun m => (List.range n).all fun i => i == z || m.testBit i
theorem covZ_tb {n z : Nat} {ms : List Nat} (h : covZ n z ms = true) {j m i : Nat} (hm : ms[j]? = some m) (hn : n ≤ j) (hi : i < n) (hz : i ≠ z) : tb m i := by
  have hmem : m ∈ ms.drop n := by
    rw [List.mem_iff_getElem?]
    exact ⟨j - n, by rw [List.getElem?_drop, show n + (j - n) = j by omega]; exact hm⟩
  have h1 := List.all_eq_true.1 (List.all_eq_true.1 h m hmem) i (List.mem_range.2 hi)
  rw [Bool.or_eq_true, beq_iff_eq] at h1
  rcases h1 with h1 | h1
  · exact absurd h1 hz
  · exact tb_iff.2 h1
section
variable {P : Program} {r : Option Nat} {nf N : Nat} {fz : List Nat} {G : Gl} {ops : Array Oper} {rl : List RO} {ms : List Nat} {s : S} {st : Nat → S} {pp : Nat → Path} {out : Nat → AV} {u : Nat → Option (Nat × Blk)}
theorem one_step (hG : G.N = N) (hrl : trL P N fz ops ops.toList = some rl) {listed : Array Bool} {E : Env} {a : Act} {w : World} {i : Nat} (hi : i ∈ Region.ready .any ops listed) (hS : SatS G s E a w)
    {Q : Exit → Act → World → Prop} {ro : RO} (hro : rl[i]? = some ro) {rest : List RO} {K : S → Prop} (hc : chain P none (ro :: rest) s K) {X : Act → World → Prop} (hnext : ∀ s' E' a' w', chain P none rest s' K → SatS G s' E' a' w' → X a' w') : wpOpIn (W1 r) nf P ops Q i X a w := by
  obtain ⟨hl, hsp⟩ := trL_spec hrl
  obtain ⟨hun, oi, hoi, hall⟩ := mem_ready.1 hi
  obtain ⟨ro', hro', h2⟩ := hsp i oi (by simpa using hoi)
  rw [hro] at hro'
  cases hro'
  rcases chain_step hc with ⟨p, out, u, _, hok, hc'⟩ | ⟨_, p, hp, hu, hsp'⟩
  rotate_left
  · unfold wpOpIn
    simp only [hoi]
    exact sp_step hG h2 hS hp hu hsp' _ Q hnext
  have hslots : ∀ x, sat E w (ev s.tm x) (a.eval x) := fun x => ev_sat hS.st x (fun t _ => rfl)
  obtain ⟨f, hop⟩ := h2.op
  have hG1 : GOk P r nf G (lk s.tm) (lm s.mem) E a w ops oi (gdd p out) u := by
    refine gok_of hS.st h2.gd (by rw [← pathOf_eq]; exact hok.path) (fun g b hg => hslots _) hok.okU (fun hpc => ?_)
    refine hok.sem r nf G _ _ E a w oi ?_ hpc
    rw [stepP_eq]
    exact stepQ_sem hS.st (hS.nx _ (Nat.le_refl _)) hop hpc (fun x _ => hslots x) (by rw [← underAll_eq]; exact hok.under)
  unfold wpOpIn
  simp only [hoi]
  refine hG1 _ Q (fun E' w' v h3 h4 h5 => ?_)
  have hS' := satS_app (dst := oi.dst) (p := p) hS.nx h4 h5 hok.okU (fun d hd => by rw [hG]; exact h2.lt d hd)
  rw [h2.dst] at hc'
  exact hnext _ E' _ w' hc' hS'
theorem set_listed {listed : Array Bool} {i : Nat} (h : i < listed.size) (j : Nat) : (listed.setIfInBounds i true).getD j false = if j = i then true else listed.getD j false := by
  by_cases hij : i = j
  · subst hij
    simp [h]
  · rw [getD_set_ne false hij, if_neg (fun e => hij e.symm)]
theorem anyorderZ (hG : G.N = N) (hrl : trL P N fz ops ops.toList = some rl) (hms : ms = masks ops.toList []) (hE : edgeOK 0 ops.toList = true) (hO : ordAll [] rl ms = true) {lo n : Nat} (hn : lo + n ≤ ops.size) {z : Nat} (hz : z < n) (hF : ∀ (j mj : Nat), lo + n ≤ j → ms[j]? = some mj → ∀ i, i < lo + n → i ≠ lo + z → tb mj i) {sg : List RO} (hsg : sg = (rl.drop lo).take n) {mf : List Nat}
    (R : Run P sg mf s st pp out u) (hcfR : ∀ j ro, sg[j]? = some ro → ∃ m, ms[lo + j]? = some m ∧ ∀ (k : Nat) rk, k < j → sg[k]? = some rk → cl (dT (st k) rk.op) (dW (st k) (pp k) rk.op) (dT (st j) ro.op) (dW (st j) (pp j) ro.op) = true → tb m (lo + k))
    (hnx : ∀ k, s.nx ≤ k → lm s.mem k = none) {Q : Exit → Act → World → Prop} (hc : AtG P r nf G ops ms Q (lo + n) (st n))
    (hc2 : ∀ (fuel : Nat) (listed : Array Bool) (E : Env) (a : Act) (w : World), unl listed ≤ fuel → LI ops ms listed → (∀ j, lo + n ≤ j → j < ops.size → listed.getD j false = false) → (∀ j, j < lo + n → j ≠ lo + z → listed.getD j false = true) → listed.getD (lo + z) false = false →
      Sat G (Fd sg (fun j => gdd (pp j) (out j)) (fun j => listed.getD (lo + j) false) (lk s.tm) sg.length) (Md u (fun j => listed.getD (lo + j) false) (lm s.mem) sg.length) E a w → wpAnyIn (W1 r) nf P .any ops Q fuel listed a w) :
    ∀ (fuel : Nat) (listed : Array Bool) (E : Env) (a : Act) (w : World), unl listed ≤ fuel → LI ops ms listed → (∀ j, lo + n ≤ j → j < ops.size → listed.getD j false = false) → (∀ j, j < lo → listed.getD j false = true) →
      Sat G (Fd sg (fun j => gdd (pp j) (out j)) (fun j => listed.getD (lo + j) false) (lk s.tm) sg.length) (Md u (fun j => listed.getD (lo + j) false) (lm s.mem) sg.length) E a w →
      wpAnyIn (W1 r) nf P .any ops Q fuel listed a w := by
  obtain ⟨hl, hsp⟩ := trL_spec hrl
  have hlen : rl.length = ops.size := by rw [hl, Array.length_toList]
  have hl1 : sg.length = n := by rw [hsg, List.length_take, List.length_drop]; omega
  have hget : ∀ j, j < n → sg[j]? = rl[lo + j]? := fun j hj => by rw [hsg, List.getElem?_take, if_pos hj, List.getElem?_drop]
  have hgo : ∀ (fuel : Nat) (listed : Array Bool) (E : Env) (a : Act) (w : World), unl listed ≤ fuel → LI ops ms listed → (∀ j, lo + n ≤ j → j < ops.size → listed.getD j false = false) → (∀ j, j < lo + n → listed.getD j false = true) →
      Sat G (Fd sg (fun j => gdd (pp j) (out j)) (fun j => listed.getD (lo + j) false) (lk s.tm) sg.length) (Md u (fun j => listed.getD (lo + j) false) (lm s.mem) sg.length) E a w → wpAnyIn (W1 r) nf P .any ops Q fuel listed a w := by
    intro fuel listed E a w hf inv hhi hall hS
    have e1 : Fd sg (fun j => gdd (pp j) (out j)) (fun j => listed.getD (lo + j) false) (lk s.tm) sg.length = lk (st n).tm := by
      rw [R.tm n (by omega), hl1]
      funext t
      exact Fd_congr _ (fun j hj _ => hall (lo + j) (by omega))
    have e2 : Md u (fun j => listed.getD (lo + j) false) (lm s.mem) sg.length = lm (st n).mem := by
      rw [R.mem n (by omega), hl1]
      funext t
      exact Md_congr _ (fun j hj _ _ => hall (lo + j) (by omega))
    rw [e1, e2] at hS
    refine hc fuel listed E a w hf inv (fun j hj => ?_) ⟨hS, R.nxN hnx (by omega)⟩
    by_cases q : j < lo + n
    · rw [hall j q, decide_eq_true q]
    · rw [hhi j (by omega) hj, decide_eq_false q]
  intro fuel
  induction fuel with
  | zero =>
    intro listed E a w hf inv hhi hlw hS
    exact hgo 0 listed E a w hf inv hhi (fun j hj => all_listed hE inv (ready_nil hf) j j (Nat.le_refl _) (by omega)) hS
  | succ fuel ih =>
    intro listed E a w hf inv hhi hlw hS
    by_cases hdone : ∀ j, j < lo + n → listed.getD j false = true
    · exact hgo (fuel + 1) listed E a w hf inv hhi hdone hS
    by_cases hdz : ∀ j, j < lo + n → j ≠ lo + z → listed.getD j false = true
    · refine hc2 (fuel + 1) listed E a w hf inv hhi hdz ?_ hS
      cases hq : listed.getD (lo + z) false with
      | false => rfl
      | true =>
        refine absurd (fun j hj => ?_) hdone
        by_cases hjz : j = lo + z
        · rw [hjz]; exact hq
        · exact hdz j hj hjz
    refine ⟨fun hr => absurd (fun j hj => all_listed hE inv hr j j (Nat.le_refl _) (by omega)) hdone, fun I hi => ?_⟩
    obtain ⟨hun, oi, hoi, hall⟩ := mem_ready.1 hi
    have hil : I < ops.size := (Array.getElem?_eq_some_iff.1 hoi).1
    have hunf := getD_ff hun
    have hin' : I < lo + n := by
      apply Classical.byContradiction
      intro hge
      obtain ⟨mi, hmi⟩ := masks_get hms hil
      exact hdz (fun j hj hjz => (anc hms hE inv I I (Nat.le_refl _) oi mi hoi hmi hall j (hF I mi (by omega) hmi j hj hjz)).2)
    have hlo' : lo ≤ I := by
      apply Classical.byContradiction
      intro hge
      rw [hlw I (by omega)] at hunf
      cases hunf
    obtain ⟨i, rfl⟩ : ∃ i, I = lo + i := ⟨I - lo, by omega⟩
    have hin : i < n := by omega
    have hirl : i < sg.length := by omega
    obtain ⟨ro, hro', ht⟩ := hsp (lo + i) oi (by simpa using hoi)
    have hro : sg[i]? = some ro := by rw [hget i hin]; exact hro'
    have hok := R.ok i ro hro
    obtain ⟨mi, hmi, hcf⟩ := hcfR i ro hro
    have hbefore : ∀ j, tb mi j → listed.getD j false = true := fun j hj => (anc hms hE inv (lo + i) (lo + i) (Nat.le_refl _) oi mi hoi hmi hall j hj).2
    have hafter : ∀ j rj mj, sg[j]? = some rj → ms[lo + j]? = some mj → tb mj (lo + i) → listed.getD (lo + j) false = false := by
      intro j rj mj hj hmj htb
      cases hc : listed.getD (lo + j) false with
      | false => rfl
      | true =>
        have hjl : lo + j < ops.size := by
          have := (List.getElem?_eq_some_iff.1 hj).1
          omega
        have hoj : ops[lo + j]? = some ops[lo + j] := Array.getElem?_eq_getElem hjl
        have := (anc hms hE inv (lo + j) (lo + j) (Nat.le_refl _) _ mj hoj hmj (fun e he hb => inv.closed (lo + j) _ hoj hc e he hb) (lo + i) htb).2
        rw [hunf] at this; cases this
    have hmsl : ∀ j, j < sg.length → ∃ mj, ms[lo + j]? = some mj := fun j hj => masks_get hms (by omega)
    have hslot : ∀ j rj, j < sg.length → sg[j]? = some rj → j ≠ i → (clashS rj ro = true ∧ clashS ro rj = true) → listed.getD (lo + j) false = decide (j < i) := by
      intro j rj hj hrj hne hcl
      rcases Nat.lt_or_gt_of_ne hne with h | h
      · rw [decide_eq_true h]
        exact hbefore (lo + j) (tb_iff.2 (ordAll_spec rl [] ms hO (lo + i) ro mi hro' hmi (lo + j) rj (by simp; omega) (by rw [hget j (by omega)] at hrj; simpa using hrj) hcl.1))
      · rw [decide_eq_false (by omega)]
        obtain ⟨mj, hmj⟩ := hmsl j hj
        exact hafter j rj mj hrj hmj (tb_iff.2 (ordAll_spec rl [] ms hO (lo + j) rj mj (by rw [hget j (by omega)] at hrj; exact hrj) hmj (lo + i) ro (by simp; omega) (by simpa using hro') hcl.2))
    have hblk : ∀ j rj, j < sg.length → sg[j]? = some rj → j ≠ i →
        (cl (dT (st j) rj.op) (dW (st j) (pp j) rj.op) (dT (st i) ro.op) (dW (st i) (pp i) ro.op) = true ∧ cl (dT (st i) ro.op) (dW (st i) (pp i) ro.op) (dT (st j) rj.op) (dW (st j) (pp j) rj.op) = true) → listed.getD (lo + j) false = decide (j < i) := by
      intro j rj hj hrj hne hcl
      rcases Nat.lt_or_gt_of_ne hne with h | h
      · rw [decide_eq_true h]
        exact hbefore (lo + j) (hcf j rj h hrj hcl.1)
      · rw [decide_eq_false (by omega)]
        obtain ⟨mj, hmj, hcj⟩ := hcfR j rj hrj
        exact hafter j rj mj hrj hmj (hcj i ro h hro hcl.2)
    have hdec : decide (i < i) = false := decide_eq_false (Nat.lt_irrefl i)
    have hread : ∀ t ∈ rdS ro, lk (st i).tm t = Fd sg (fun j => gdd (pp j) (out j)) (fun j => listed.getD (lo + j) false) (lk s.tm) sg.length t := by
      intro t ht'
      rw [R.tm i (by omega), ← Fd_lt sg.length (by omega)]
      refine (Fd_congr _ (fun j hj hd => ?_)).symm
      have hrj : sg[j]? = some sg[j] := List.getElem?_eq_getElem hj
      have hdj : sg[j].dst = some t := by simpa [dstAt, hrj] using hd
      by_cases hij : j = i
      · subst hij; simp only [hunf, hdec]
      · exact hslot j _ hj hrj hij ⟨clash_rd hdj ht', clash_rd' hdj ht'⟩
    have hmem : ∀ k ∈ dT (st i) ro.op, Md u (fun j => listed.getD (lo + j) false) (lm s.mem) sg.length k = lm (st i).mem k := by
      intro k hk
      rw [R.mem i (by omega), ← Md_lt sg.length (by omega)]
      refine Md_congr _ (fun j hj b hu => ?_)
      have hrj : sg[j]? = some sg[j] := List.getElem?_eq_getElem hj
      by_cases hij : j = i
      · subst hij; simp only [hunf, hdec]
      · have hw := (R.ok j _ hrj).wr k b hu
        refine hblk j _ hj hrj hij ⟨?_, ?_⟩
        · simp only [cl, hw, Bool.or_eq_true]; exact .inl (.inl (meets_mem (List.mem_singleton.2 rfl) hk))
        · simp only [cl, hw, Bool.or_eq_true]; exact .inr (meets_mem (List.mem_singleton.2 rfl) hk)
    have hnew : Md u (fun j => listed.getD (lo + j) false) (lm s.mem) sg.length (st i).nx = none := by
      rw [R.nx i (by omega)]
      have h0 : Md u (fun j => listed.getD (lo + j) false) (lm s.mem) sg.length (s.nx + i) = Md u (fun _ => false) (lm s.mem) sg.length (s.nx + i) := by
        refine Md_congr _ (fun j hj b hu => ?_)
        have hrj : sg[j]? = some sg[j] := List.getElem?_eq_getElem hj
        by_cases hij : j = i
        · subst hij; exact hunf
        · have hoku := (R.ok j _ hrj).okU
          rw [hu] at hoku
          have hw := (R.ok j _ hrj).wr _ b hu
          rcases hoku.2 with h1 | ⟨h1, h2⟩
          · rw [R.nx j (by omega)] at h1; omega
          · obtain ⟨h3, b', hb'⟩ := R.first hnx j (by omega) i ((hasM_iff _ _).1 h2)
            have hwi := hok.wr _ b' hb'
            have := hblk j _ hj hrj hij ⟨by simp only [cl, hw, hwi, Bool.or_eq_true]; exact .inl (.inr (meets_mem (List.mem_singleton.2 rfl) (List.mem_singleton.2 rfl))), by simp only [cl, hw, hwi, Bool.or_eq_true]; exact .inl (.inr (meets_mem (List.mem_singleton.2 rfl) (List.mem_singleton.2 rfl)))⟩
            rw [this]; exact decide_eq_false (by omega)
      rw [h0]
      have : ∀ n, Md u (fun _ => false) (lm s.mem) n = lm s.mem := fun n => by
        induction n with
        | zero => rfl
        | succ n ih => simp only [Md, Bool.false_eq_true, if_false]; exact ih
      rw [this]
      exact hnx _ (by omega)
    have hslots : ∀ x, (∀ t, x = .tmp t → t ∈ rdS ro) → sat E w (ev (st i).tm x) (a.eval x) := fun x hx => ev_sat hS x (fun t htt => hread t (hx t htt))
    obtain ⟨f, hop⟩ := ht.op
    have hG1 : GOk P r nf G (Fd sg (fun j => gdd (pp j) (out j)) (fun j => listed.getD (lo + j) false) (lk s.tm) sg.length) (Md u (fun j => listed.getD (lo + j) false) (lm s.mem) sg.length) E a w ops oi (gdd (pp i) (out i)) (u i) := by
      refine gok_of hS ht.gd (by rw [← pathOf_eq]; exact hok.path) (fun g b hg => hslots _ (fun t htt => by cases htt; exact rdS_gd hg)) hok.okU (fun hpc => ?_)
      refine hok.sem r nf G _ _ E a w oi ?_ hpc
      rw [stepP_eq, ← stepQ_loc (m' := Md u (fun j => listed.getD (lo + j) false) (lm s.mem) sg.length) hmem]
      exact stepQ_sem hS hnew hop hpc (fun x hx => hslots x (fun t htt => by subst htt; exact rdS_slot hx)) (by rw [← underAll_eq]; exact hok.under)
    unfold wpOpIn
    simp only [hoi]
    refine hG1 _ Q (fun E' w' v h3 h4 h5 => ?_)
    refine ih _ E' _ w' (by have := unl_set hun; omega) (inv.set hi) (fun j h1 h2 => by rw [getD_set_ne false (show lo + i ≠ j by omega)]; exact hhi j h1 h2) (fun j h1 => by rw [getD_set_ne false (show lo + i ≠ j by omega)]; exact hlw j h1) ?_
    have hset : ∀ j, (listed.setIfInBounds (lo + i) true).getD (lo + j) false = (if j = i then true else listed.getD (lo + j) false) := fun j => by
      by_cases hij : j = i
      · subst hij
        have : lo + j < listed.size := by rw [inv.size]; exact hil
        simp [this]
      · rw [if_neg hij, getD_set_ne false (show lo + i ≠ lo + j by omega)]
    have hu2 : Md u (fun j => (listed.setIfInBounds (lo + i) true).getD (lo + j) false) (lm s.mem) sg.length = updO (Md u (fun j => listed.getD (lo + j) false) (lm s.mem) sg.length) (u i) := by
      funext k
      by_cases hk : ∃ b, u i = some (k, b)
      · obtain ⟨b, hb⟩ := hk
        have hwi := hok.wr k b hb
        have e : Md u (fun j => (listed.setIfInBounds (lo + i) true).getD (lo + j) false) (lm s.mem) sg.length k = Md u (fun j => decide (j < i + 1)) (lm s.mem) sg.length k := by
          refine Md_congr _ (fun j hj b' hu => ?_)
          have hrj : sg[j]? = some sg[j] := List.getElem?_eq_getElem hj
          simp only [hset]
          by_cases hij : j = i
          · subst hij; simp
          · rw [if_neg hij]
            have hw := (R.ok j _ hrj).wr k b' hu
            rw [hblk j _ hj hrj hij ⟨by simp only [cl, hw, hwi, Bool.or_eq_true]; exact .inl (.inr (meets_mem (List.mem_singleton.2 rfl) (List.mem_singleton.2 rfl))), by simp only [cl, hw, hwi, Bool.or_eq_true]; exact .inl (.inr (meets_mem (List.mem_singleton.2 rfl) (List.mem_singleton.2 rfl)))⟩]
            have : (j < i) ↔ (j < i + 1) := by omega
            simp only [this]
        rw [e, Md_lt sg.length (by omega)]
        simp only [Md, if_true, hb, updO, upd]
      · have e : Md u (fun j => (listed.setIfInBounds (lo + i) true).getD (lo + j) false) (lm s.mem) sg.length k = Md u (fun j => listed.getD (lo + j) false) (lm s.mem) sg.length k := by
          refine Md_congr _ (fun j hj b' hu => ?_)
          simp only [hset]
          rw [if_neg (fun hij => hk ⟨b', by rw [← hij]; exact hu⟩)]
        rw [e]
        cases hui : u i with
        | none => rfl
        | some kb =>
          obtain ⟨k', b⟩ := kb
          simp only [updO, upd]
          rw [if_neg (fun hkk => hk ⟨b, by rw [hui, hkk]⟩)]
    have hf2 : Sat G (Fd sg (fun j => gdd (pp j) (out j)) (fun j => (listed.setIfInBounds (lo + i) true).getD (lo + j) false) (lk s.tm) sg.length) (Md u (fun j => (listed.setIfInBounds (lo + i) true).getD (lo + j) false) (lm s.mem) sg.length) E' (a.put oi.dst v) w' := by
      rw [hu2]
      cases hd : oi.dst with
      | none =>
        have e : Fd sg (fun j => gdd (pp j) (out j)) (fun j => (listed.setIfInBounds (lo + i) true).getD (lo + j) false) (lk s.tm) sg.length = Fd sg (fun j => gdd (pp j) (out j)) (fun j => listed.getD (lo + j) false) (lk s.tm) sg.length := by
          funext t
          refine Fd_congr _ (fun j hj hdj => ?_)
          simp only [hset]
          rw [if_neg (fun hij => by subst hij; simp [dstAt, hro, ht.dst, hd] at hdj)]
        rw [e]
        exact h4
      | some d =>
        have hrd : ro.dst = some d := by rw [ht.dst, hd]
        have e : Fd sg (fun j => gdd (pp j) (out j)) (fun j => (listed.setIfInBounds (lo + i) true).getD (lo + j) false) (lk s.tm) sg.length = upd (Fd sg (fun j => gdd (pp j) (out j)) (fun j => listed.getD (lo + j) false) (lk s.tm) sg.length) d (gdd (pp i) (out i)) := by
          funext t
          by_cases htd : t = d
          · subst htd
            have e : Fd sg (fun j => gdd (pp j) (out j)) (fun j => (listed.setIfInBounds (lo + i) true).getD (lo + j) false) (lk s.tm) sg.length t = Fd sg (fun j => gdd (pp j) (out j)) (fun j => decide (j < i + 1)) (lk s.tm) sg.length t := by
              refine Fd_congr _ (fun j hj hdj => ?_)
              have hrj : sg[j]? = some sg[j] := List.getElem?_eq_getElem hj
              have hdj' : sg[j].dst = some t := by simpa [dstAt, hrj] using hdj
              simp only [hset]
              by_cases hij : j = i
              · subst hij; simp
              · rw [if_neg hij, hslot j _ hj hrj hij ⟨clash_dd hdj' hrd, clash_dd hrd hdj'⟩]
                have : (j < i) ↔ (j < i + 1) := by omega
                simp only [this]
            rw [e, Fd_lt sg.length (by omega)]
            simp only [Fd, if_true, dstAt, hro, Option.bind_some, hrd, upd]
          · have e : Fd sg (fun j => gdd (pp j) (out j)) (fun j => (listed.setIfInBounds (lo + i) true).getD (lo + j) false) (lk s.tm) sg.length t = Fd sg (fun j => gdd (pp j) (out j)) (fun j => listed.getD (lo + j) false) (lk s.tm) sg.length t := by
              refine Fd_congr _ (fun j hj hdj => ?_)
              simp only [hset]
              rw [if_neg (fun hij => by subst hij; simp [dstAt, hro, hrd] at hdj; exact htd hdj.symm)]
            rw [e]
            simp only [upd]
            rw [if_neg htd]
        rw [e]
        exact h4.put (by rw [hG]; exact ht.lt d hd) h5
    exact hf2
def AtZ (P : Program) (r : Option Nat) (nf : Nat) (G : Gl) (ops : Array Oper) (ms : List Nat) (Q : Exit → Act → World → Prop) (lo z : Nat) (s : S) : Prop :=
  ∀ (fuel : Nat) (listed : Array Bool) (E : Env) (a : Act) (w : World), unl listed ≤ fuel → LI ops ms listed → (∀ j, j < ops.size → listed.getD j false = decide (j < lo ∧ j ≠ z)) → SatS G s E a w → wpAnyIn (W1 r) nf P .any ops Q fuel listed a w
theorem atz_two (hG : G.N = N) (hrl : trL P N fz ops ops.toList = some rl) (hms : ms = masks ops.toList []) (hE : edgeOK 0 ops.toList = true) {lo z : Nat} (hz : z < lo) (hlo : lo < ops.size) (h2 : covB (lo + 1) ms = true)
    {Q : Exit → Act → World → Prop} {rz rn : RO} (hrz : rl[z]? = some rz) (hrn : rl[lo]? = some rn) {rest : List RO} {K : S → Prop} (hc1 : chain P none (rz :: rn :: rest) s K) (hc2 : chain P none (rn :: rz :: rest) s K)
    (hn : ∀ s', chain P none rest s' K → AtG P r nf G ops ms Q (lo + 1) s') : AtZ P r nf G ops ms Q lo z s := by
  intro fuel listed E a w hf inv hlst hS
  have hsz := inv.size
  have hnr : Region.ready .any ops listed ≠ [] := fun hr => by
    have := all_listed hE inv hr lo lo (Nat.le_refl _) hlo
    rw [hlst lo hlo] at this
    simp at this
  cases fuel with
  | zero => exact absurd (ready_nil hf) hnr
  | succ fuel =>
    refine ⟨fun hr => absurd hr hnr, fun i hi => ?_⟩
    obtain ⟨hun, oi, hoi, hall⟩ := mem_ready.1 hi
    have hil : i < ops.size := (Array.getElem?_eq_some_iff.1 hoi).1
    have hunf := getD_ff hun
    obtain ⟨mi, hmi⟩ := masks_get hms hil
    have hcase : i = z ∨ i = lo := by
      apply Classical.byContradiction
      intro hne
      rw [not_or] at hne
      rw [hlst i hil, decide_eq_false_iff_not] at hunf
      have := (anc hms hE inv i i (Nat.le_refl _) oi mi hoi hmi hall lo (cov_tb h2 hmi (by omega) (by omega))).2
      rw [hlst lo hlo] at this
      simp at this
    have inv1 := inv.set hi
    have hf1 : unl (listed.setIfInBounds i true) ≤ fuel := by have := unl_set hun; omega
    rcases hcase with rfl | rfl
    · refine one_step hG hrl hi hS hrz hc1 (fun s1 E1 a1 w1 k1 hS1 => ?_)
      have hl1 : ∀ j, j < ops.size → (listed.setIfInBounds i true).getD j false = decide (j < lo) := fun j hj => by
        rw [set_listed (by omega), hlst j hj]
        by_cases q : j = i
        · rw [if_pos q, decide_eq_true (by omega)]
        · rw [if_neg q]
          have : (j < lo ∧ j ≠ i) ↔ j < lo := by omega
          simp only [this]
      have hnr1 : Region.ready .any ops (listed.setIfInBounds i true) ≠ [] := fun hr => by
        have := all_listed hE inv1 hr lo lo (Nat.le_refl _) hlo
        rw [hl1 lo hlo] at this
        simp at this
      cases fuel with
      | zero => exact absurd (ready_nil hf1) hnr1
      | succ fuel =>
        refine ⟨fun hr => absurd hr hnr1, fun i2 hi2 => ?_⟩
        obtain ⟨hun2, o2, ho2, hall2⟩ := mem_ready.1 hi2
        have hil2 : i2 < ops.size := (Array.getElem?_eq_some_iff.1 ho2).1
        have hunf2 := getD_ff hun2
        obtain ⟨m2, hm2⟩ := masks_get hms hil2
        have him : i2 = lo := by
          apply Classical.byContradiction
          intro hne
          rw [hl1 i2 hil2, decide_eq_false_iff_not] at hunf2
          have := (anc hms hE inv1 i2 i2 (Nat.le_refl _) o2 m2 ho2 hm2 hall2 lo (cov_tb h2 hm2 (by omega) (by omega))).2
          rw [hl1 lo hlo] at this
          simp at this
        subst him
        refine one_step hG hrl hi2 hS1 hrn k1 (fun s2 E2 a2 w2 k2 hS2 => ?_)
        refine hn s2 k2 fuel _ E2 a2 w2 (by have := unl_set hun2; omega) (inv1.set hi2) (fun j hj => ?_) hS2
        rw [set_listed (by rw [inv1.size]; omega), hl1 j hj]
        by_cases q : j = i2
        · rw [if_pos q, decide_eq_true (by omega)]
        · rw [if_neg q]
          have : (j < i2) ↔ j < i2 + 1 := by omega
          simp only [this]
    · refine one_step hG hrl hi hS hrn hc2 (fun s1 E1 a1 w1 k1 hS1 => ?_)
      have hl1 : ∀ j, j < ops.size → (listed.setIfInBounds i true).getD j false = decide (j < i + 1 ∧ j ≠ z) := fun j hj => by
        rw [set_listed (by omega), hlst j hj]
        by_cases q : j = i
        · rw [if_pos q, decide_eq_true (by omega)]
        · rw [if_neg q]
          have : (j < i ∧ j ≠ z) ↔ (j < i + 1 ∧ j ≠ z) := by omega
          simp only [this]
      have hnr1 : Region.ready .any ops (listed.setIfInBounds i true) ≠ [] := fun hr => by
        have := all_listed hE inv1 hr z z (Nat.le_refl _) (by omega)
        rw [hl1 z (by omega)] at this
        simp at this
      cases fuel with
      | zero => exact absurd (ready_nil hf1) hnr1
      | succ fuel =>
        refine ⟨fun hr => absurd hr hnr1, fun i2 hi2 => ?_⟩
        obtain ⟨hun2, o2, ho2, hall2⟩ := mem_ready.1 hi2
        have hil2 : i2 < ops.size := (Array.getElem?_eq_some_iff.1 ho2).1
        have hunf2 := getD_ff hun2
        obtain ⟨m2, hm2⟩ := masks_get hms hil2
        have him : i2 = z := by
          apply Classical.byContradiction
          intro hne
          rw [hl1 i2 hil2, decide_eq_false_iff_not] at hunf2
          have := (anc hms hE inv1 i2 i2 (Nat.le_refl _) o2 m2 ho2 hm2 hall2 z (cov_tb h2 hm2 (by omega) (by omega))).2
          rw [hl1 z (by omega)] at this
          simp at this
        subst him
        refine one_step hG hrl hi2 hS1 hrz k1 (fun s2 E2 a2 w2 k2 hS2 => ?_)
        refine hn s2 k2 fuel _ E2 a2 w2 (by have := unl_set hun2; omega) (inv1.set hi2) (fun j hj => ?_) hS2
        rw [set_listed (by rw [inv1.size]; omega), hl1 j hj]
        by_cases q : j = i2
        · rw [if_pos q, decide_eq_true (by omega)]
        · rw [if_neg q]
          have : (j < i + 1 ∧ j ≠ i2) ↔ j < i + 1 := by omega
          simp only [this]
theorem atg_nxt (hG : G.N = N) (hrl : trL P N fz ops ops.toList = some rl) (hms : ms = masks ops.toList []) (hE : edgeOK 0 ops.toList = true) {lo : Nat} (hlo : lo < ops.size) (h2 : covB (lo + 1) ms = true)
    {Q : Exit → Act → World → Prop} {ro : RO} (hro : rl[lo]? = some ro) {rest : List RO} {K : S → Prop} (hc : chain P none (ro :: rest) s K) (hn : ∀ s', chain P none rest s' K → AtG P r nf G ops ms Q (lo + 1) s') : AtG P r nf G ops ms Q lo s := by
  intro fuel listed E a w hf inv hlst hS
  have hsz := inv.size
  have hnr : Region.ready .any ops listed ≠ [] := fun hr => by
    have := all_listed hE inv hr lo lo (Nat.le_refl _) hlo
    rw [hlst lo hlo] at this
    simp at this
  cases fuel with
  | zero => exact absurd (ready_nil hf) hnr
  | succ fuel =>
    refine ⟨fun hr => absurd hr hnr, fun i hi => ?_⟩
    obtain ⟨hun, oi, hoi, hall⟩ := mem_ready.1 hi
    have hil : i < ops.size := (Array.getElem?_eq_some_iff.1 hoi).1
    have hunf := getD_ff hun
    obtain ⟨mi, hmi⟩ := masks_get hms hil
    have him : i = lo := by
      apply Classical.byContradiction
      intro hne
      rw [hlst i hil, decide_eq_false_iff_not] at hunf
      have := (anc hms hE inv i i (Nat.le_refl _) oi mi hoi hmi hall lo (cov_tb h2 hmi (by omega) (by omega))).2
      rw [hlst lo hlo] at this
      simp at this
    subst him
    refine one_step hG hrl hi hS hro hc (fun s2 E2 a2 w2 k2 hS2 => ?_)
    refine hn s2 k2 fuel _ E2 a2 w2 (by have := unl_set hun; omega) (inv.set hi) (fun j hj => ?_) hS2
    rw [set_listed (by omega), hlst j hj]
    by_cases q : j = i
    · rw [if_pos q, decide_eq_true (by omega)]
    · rw [if_neg q]
      have : (j < i) ↔ j < i + 1 := by omega
      simp only [this]
end
section
variable {P : Program} {N : Nat} {s : S} {Q : Ex → S → Prop}
theorem W_regZ {ms : List Nat} {rl : List RO} {ks : List Nat} (n z d : Nat) {rz rn : RO} (hz : z < n) (hrz : rl[z]? = some rz) (hrn : rl[n]? = some rn) (hd : rz.dst = some d) (hwz : ∀ s p, dW s p rz.op = []) (hne : (List.range n).all (fun j => j == z || (dstAt rl j != some d)) = true)
    (hcz : covZ n z ms = true) (h2 : seqB (n + 1) (rl.length - (n + 1)) ms = true)
    (h : chain P (some ⟨ms, 0, []⟩) (rl.take n) s (fun s1 =>
      (∃ s2, le s1 s2 ∧ chain P none (rn :: rl.drop (n + 1)) s2 (fun s' => Q .n (s'.keep ks))) ∧
      (∃ s2, le ⟨(d, lk s.tm d) :: s1.tm, s1.mem, s1.nx⟩ s2 ∧ chain P none (rz :: rn :: rl.drop (n + 1)) s2 (fun s' => Q .n (s'.keep ks)) ∧ chain P none (rn :: rz :: rl.drop (n + 1)) s2 (fun s' => Q .n (s'.keep ks))))) : W P N (regL ks (some ms) rl) s Q := by
  intro hm code fz ht r nf G E x w hG hS
  obtain ⟨id, ops, dq, rfl, hrl, hdd⟩ := trC_reg ht
  rcases hdd with ⟨rfl, hx⟩ | ⟨rfl, hx, hE, hO⟩
  · cases hx
  · cases hx
    have hlen : rl.length = ops.size := by rw [(trL_spec hrl).1, Array.length_toList]
    have hnl : n < rl.length := (List.getElem?_eq_some_iff.1 hrn).1
    have c2 : ∀ i, i ≤ rl.length - (n + 1) → covB (n + 1 + i) (masks ops.toList []) = true := fun i hi => List.all_eq_true.1 h2 i (List.mem_range.2 (by omega))
    refine wpIn_region_any hm ?_
    have hrep : ∀ j, (Array.replicate ops.size false).getD j false = false := fun j => by
      rcases Nat.lt_or_ge j ops.size with h | h
      · simp [h]
      · simp [h]
    have rest : ∀ s', chain P none (rl.drop (n + 1)) s' (fun s' => Q .n (s'.keep ks)) → AtG P r nf G ops (masks ops.toList []) (WX G Q) (n + 1) s' := fun s' k => by
      have h5 : rl.drop (n + 1) = (rl.drop (n + 1)).take (rl.length - (n + 1)) := by rw [List.take_of_length_le (by rw [List.length_drop]; omega)]
      rw [h5] at k
      refine atg_seq (K := fun s' => Q .n (s'.keep ks)) hG.1 hrl rfl hE _ _ s' (by omega) c2 k (fun s4 k4 => ?_)
      rw [show n + 1 + (rl.length - (n + 1)) = ops.size by omega]
      exact atg_end hE (fun s E a w hk hS => ⟨_, E, hk, keep_sat ks hS⟩) k4
    have hl1 : (rl.take n).length = n := by rw [List.length_take]; omega
    obtain ⟨st, pp, out, u, g1, g2, g3⟩ := chain_run _ _ _ _ _ h
    rw [hl1] at g2
    obtain ⟨⟨sA, leA, kA⟩, sB, leB, kB1, kB2⟩ := g2
    have R : Run P (rl.take n) ((List.range n).map fun j => 2 ^ j - 1) s st pp out u := ⟨g1, fun j ro hj => (g3 j ro hj).1, fun j ro hj => (g3 j ro hj).2.1, fun j ro hj => by
      have hjn : j < n := by have := (List.getElem?_eq_some_iff.1 hj).1; omega
      refine ⟨2 ^ j - 1, by simp [hjn], fun k rk hk _ _ => ?_⟩
      rw [tb_iff, Nat.testBit_two_pow_sub_one]
      simpa using hk⟩
    have hget : ∀ j, j < n → (rl.take n)[j]? = rl[j]? := fun j hj => by rw [List.getElem?_take, if_pos hj]
    have huz : u z = none := by
      cases hq : u z with
      | none => rfl
      | some kb =>
        have := (R.ok z rz (by rw [hget z hz]; exact hrz)).wr kb.1 kb.2 (by rw [hq])
        rw [hwz] at this
        cases this
    have hAtG : AtG P r nf G ops (masks ops.toList []) (WX G Q) (0 + n) (st n) := by
      rw [Nat.zero_add]
      refine atg_le leA ?_
      exact atg_nxt hG.1 hrl rfl hE (by omega) (c2 0 (by omega)) hrn kA rest
    have hAtZ : AtZ P r nf G ops (masks ops.toList []) (WX G Q) n z sB := atz_two hG.1 hrl rfl hE hz (by omega) (c2 0 (by omega)) hrz hrn kB1 kB2 rest
    refine anyorderZ (lo := 0) (n := n) (z := z) (sg := rl.take n) hG.1 hrl rfl hE hO (by omega) hz (fun j mj hj hm i hi hiz => covZ_tb hcz hm (by omega) (by omega) (by omega)) (by rw [List.drop_zero]) R (fun j ro hj => ?_) hS.nx hAtG (fun fuel listed E a w hf inv hhi hall hzl hS2 => ?_) ops.size _ E x _ (by simp [unl]) ⟨by simp, fun j oj hj hl => by rw [hrep] at hl; cases hl⟩ (fun j h1 h2 => hrep j) (fun j hj => by omega) ?_
    · obtain ⟨_, _, m, h4, _, h5⟩ := g3 j ro hj
      exact ⟨m, by rw [Nat.zero_add]; exact h4, fun k rk hk hrk hc => h5 k rk hk hrk hc⟩
    · have e1 : Fd (rl.take n) (fun j => gdd (pp j) (out j)) (fun j => listed.getD (0 + j) false) (lk s.tm) (rl.take n).length = lk ((d, lk s.tm d) :: (st n).tm) := by
        funext t
        by_cases htd : t = d
        · subst htd
          have q1 : Fd (rl.take n) (fun j => gdd (pp j) (out j)) (fun j => listed.getD (0 + j) false) (lk s.tm) (rl.take n).length t = Fd (rl.take n) (fun j => gdd (pp j) (out j)) (fun _ => false) (lk s.tm) (rl.take n).length t := by
            refine Fd_congr _ (fun j hj hdj => ?_)
            by_cases hjz : j = z
            · subst hjz; rw [Nat.zero_add] at hzl ⊢; exact hzl
            · have := List.all_eq_true.1 hne j (List.mem_range.2 (by omega))
              rw [Bool.or_eq_true, beq_iff_eq, bne_iff_ne] at this
              refine absurd ?_ (this.resolve_left hjz)
              rw [← hdj]
              unfold dstAt
              rw [hget j (by omega)]
          have q2 : ∀ m, Fd (rl.take n) (fun j => gdd (pp j) (out j)) (fun _ => false) (lk s.tm) m = lk s.tm := fun m => by
            induction m with
            | zero => rfl
            | succ m ih => simp only [Fd, Bool.false_eq_true, if_false]; exact ih
          rw [q1, q2]
          simp [lk]
        · have q1 : Fd (rl.take n) (fun j => gdd (pp j) (out j)) (fun j => listed.getD (0 + j) false) (lk s.tm) (rl.take n).length t = lk (st n).tm t := by
            rw [R.tm n (by omega), hl1]
            refine Fd_congr _ (fun j hj hdj => ?_)
            by_cases hjz : j = z
            · subst hjz
              unfold dstAt at hdj
              rw [hget j hz, hrz] at hdj
              simp only [Option.bind_some, hd, Option.some.injEq] at hdj
              exact absurd hdj.symm htd
            · exact hall (0 + j) (by omega) (by omega)
          rw [q1]
          simp [lk, htd]
      have e2 : Md u (fun j => listed.getD (0 + j) false) (lm s.mem) (rl.take n).length = lm (st n).mem := by
        rw [R.mem n (by omega), hl1]
        funext t
        refine Md_congr _ (fun j hj b hb => ?_)
        by_cases hjz : j = z
        · subst hjz; rw [huz] at hb; cases hb
        · exact hall (0 + j) (by omega) (by omega)
      rw [e1, e2] at hS2
      obtain ⟨E2, hS3⟩ := leB G E a w ⟨hS2, R.nxN hS.nx (by omega)⟩
      refine hAtZ fuel listed E2 a w hf inv (fun j hj => ?_) hS3
      by_cases q : j < n
      · by_cases hjz : j = z
        · subst hjz
          rw [Nat.zero_add] at hzl
          rw [hzl, decide_eq_false (by omega)]
        · rw [hall j (by omega) (by omega), decide_eq_true ⟨q, hjz⟩]
      · rw [hhi j (by omega) hj, decide_eq_false (by omega)]
    · have q0 : (fun j => (Array.replicate ops.size false).getD (0 + j) false) = fun _ : Nat => false := funext fun j => hrep _
      rw [q0]
      have q1 : ∀ m, Fd (rl.take n) (fun j => gdd (pp j) (out j)) (fun _ => false) (lk s.tm) m = lk s.tm := fun m => by
        induction m with
        | zero => rfl
        | succ m ih => simp only [Fd, Bool.false_eq_true, if_false]; exact ih
      have q2 : ∀ m, Md u (fun _ => false) (lm s.mem) m = lm s.mem := fun m => by
        induction m with
        | zero => rfl
        | succ m ih => simp only [Md, Bool.false_eq_true, if_false]; exact ih
      rw [q1, q2]
      exact hS.st.drew
end
end Sy

namespace Sy
open Go Go.RowKit
set_option linter.unusedVariables false
set_option linter.unusedSimpArgs false
end Sy

namespace Sy
open Go Go.RowKit
set_option linter.unusedVariables false
def FinO (rv : List RV) (T n : Nat) {α : Type} (d : α) (F : α → List AV) (l : List α) : Ex → S → Prop
  | .e _, _ => False
  | _, s => ∃ k st, resOK s rv [.row k st] ∧ lm s.mem k = some (.row st T n d F l)
theorem fin_of_finO {rv : List RV} {T n : Nat} {α : Type} {d : α} {F : α → List AV} {l : List α} : ∀ e s, FinO rv T n d F l e s → Fin rv (.sl n d F l) e s := fun e s q => by
  have key : ∀ k st, lm s.mem k = some (.row st T n d F l) → pack ([AV.row k st].map (view (lm s.mem) 4)) = .sl n d F l := fun k st h => by
    simp only [List.map_cons, List.map_nil, view, h, if_true, pack]
  cases e with
  | e id => exact q.elim
  | n => obtain ⟨k, st, h1, h2⟩ := q; exact ⟨_, h1, key k st h2⟩
  | r => obtain ⟨k, st, h1, h2⟩ := q; exact ⟨_, h1, key k st h2⟩
end Sy

namespace Sy
open Go Go.RowKit
set_option linter.unusedVariables false
end Sy

namespace Sy
open Go Go.RowKit
set_option linter.unusedVariables false
def SR.setB : SR → Bool
  | .ok _ _ _ => true
  | .bls _ _ _ _ _ => true
  | .mks _ _ _ _ _ _ => true
  | .app _ _ _ _ _ _ _ _ _ _ _ => true
  | .app0 _ _ _ _ _ _ => true
  | .str _ _ _ _ _ _ _ _ _ _ _ => true
  | _ => false
def SpG (P : Program) (ro : RO) (s : S) (K : S → Prop) : Prop :=
  ∃ p, pathOf s.tm ro.gp = some p ∧ ((pc p ∧ underAll p s.tm ro.op.uops ∧ (stepP s p ro.op).setB = true ∧ chain2 P none (stepP s p ro.op) [] ro.dst [] s K) ∨ (¬ pc p ∧ K (s.app ro.dst [] (.v undef) none)))
section
variable {P : Program} {r : Option Nat} {nf N : Nat} {fz : List Nat} {G : Gl} {tm : Nat → AV} {mem : Nat → Option Blk} {ops : Array Oper} {rl : List RO} {E : Env} {a : Act} {w : World} {o : Oper}
theorem set_sem {x : SR} {dst : Option Nat} {s : S} {K : S → Prop} (hb : x.setB = true) (h : chain2 P none x [] dst [] s K) :
    ∃ out u, okU [] s u ∧ (∀ (r : Option Nat) (nf : Nat) (G : Gl) (tm : Nat → AV) (mem : Nat → Option Blk) (E : Env) (a : Act) (w : World) (o' : Oper), SRsem P r nf G tm mem E a w o' s.nx x → Ok1 P r nf G tm mem E a w o' out u) ∧ K (s.app dst [] out u) := by
  cases x with
  | ok q out u =>
    obtain ⟨h4, h5, h6⟩ := h
    rw [chain_nil] at h6
    exact ⟨out, u, h5, fun r nf G tm mem E a w o' hs => hs (h4 trivial), h6⟩
  | bls q T n len cs =>
    obtain ⟨hp0, hq, α, d, f, l, c1, c2, c3, c4, h6⟩ := h
    rw [chain_nil] at h6
    exact ⟨.row s.nx 0, some (s.nx, .row 0 T n d f l), ⟨rfl, .inl rfl⟩, fun r nf G tm mem E a w o' hs => hs hq α d f l c1 c2 c3 c4, h6⟩
  | mks q T n bytes z len =>
    obtain ⟨hp0, hq, α, d, f, x, c1, c2, c3, c4, h6⟩ := h
    rw [chain_nil] at h6
    exact ⟨.row s.nx 0, some (s.nx, .row 0 T n d f (List.replicate len.toNat x)), ⟨rfl, .inl rfl⟩, fun r nf G tm mem E a w o' hs => hs hq α d f x c1 c2 c3 c4, h6⟩
  | app q k st T n bytes d f l g m =>
    obtain ⟨hp0, hk, hq, xs, c1, c2, c3, h6⟩ := h
    rw [chain_nil] at h6
    exact ⟨.row k (st + 1), some (k, .row (st + 1) T n d f (l ++ xs)), ⟨rfl, .inr hk⟩, fun r nf G tm mem E a w o' hs => hs hq xs c1 c2 c3, h6⟩
  | app0 q T n bytes g m =>
    obtain ⟨hp0, hq, α, d, f, xs, c1, c2, c3, c4, h6⟩ := h
    rw [chain_nil] at h6
    exact ⟨.row s.nx 0, some (s.nx, .row 0 T n d f xs), ⟨rfl, .inl rfl⟩, fun r nf G tm mem E a w o' hs => hs hq α d f xs c1 c2 c3 c4, h6⟩
  | str q k st T n d f l i off cs =>
    obtain ⟨hp0, hk, hq, x, c1, c2, h6⟩ := h
    rw [chain_nil] at h6
    exact ⟨.v undef, some (k, .row st T n d f (l.set i x)), ⟨rfl, .inr hk⟩, fun r nf G tm mem E a w o' hs => hs hq x c1 c2, h6⟩
  | call _ _ _ _ _ => cases hb
  | yld _ _ _ => cases hb
  | sla _ _ _ _ => cases hb
  | no => cases hb
theorem spg_step (hG : G.N = N) {ro : RO} {s : S} {K : S → Prop} (h2 : TrO P N fz ops o ro) (hS : SatS G s E a w) (hsp : SpG P ro s K) (Kc : Act → World → Prop) (Q : Exit → Act → World → Prop) (hK : ∀ s' E' a' w', K s' → SatS G s' E' a' w' → Kc a' w') :
    if Region.wanted o (yielded ops a.tmps) then o.wpIn (W1 r) nf P a w Kc Q else (∀ f, o.about P w a.eval = some f → (W1 r).fn f) ∧ Kc (a.put o.dst undef) w := by
  obtain ⟨p, hp, hcase⟩ := hsp
  have hslots : ∀ x, sat E w (ev s.tm x) (a.eval x) := fun x => ev_sat hS.st x (fun t _ => rfl)
  have hwi := wanted_iff (w := w) (E := E) h2.gd (by rw [← pathOf_eq]; exact hp) (fun g b hg => hslots _)
  rcases hcase with ⟨hpc, hu, hb, hc⟩ | ⟨hpc, hk⟩
  rotate_left
  · rw [if_neg (fun h => hpc (hwi.1 h))]
    refine ⟨fun _ _ => trivial, ?_⟩
    have hS' := satS_app (out := .v undef) (u := none) (v := undef) (dst := o.dst) (p := []) hS.nx hS.st rfl trivial (fun d hd => by rw [hG]; exact h2.lt d hd)
    rw [h2.dst] at hk
    exact hK _ E _ w hk hS'
  obtain ⟨out, u, hok, hsem, hk⟩ := set_sem hb hc
  obtain ⟨f, hop⟩ := h2.op
  have h1 : Ok1 P r nf G (lk s.tm) (lm s.mem) E a w o out u := by
    refine hsem r nf G _ _ E a w o ?_
    rw [stepP_eq]
    exact stepQ_sem hS.st (hS.nx _ (Nat.le_refl _)) hop hpc (fun x _ => hslots x) (by rw [← underAll_eq]; exact hu)
  rw [if_pos (hwi.2 hpc)]
  refine h1 Kc Q (fun E' w' v h3 h4 h5 => ?_)
  have hS' := satS_app (dst := o.dst) (p := []) hS.nx h4 h5 hok (fun d hd => by rw [hG]; exact h2.lt d hd)
  rw [h2.dst] at hk
  exact hK _ E' _ w' hk hS'
def chainG (P : Program) : List Nat → List RO → S → (S → Prop) → Prop
  | [], rl, s, K => chain P none rl s K
  | n :: ns, rl, s, K => chain P none (rl.take n) s (fun s1 => match rl.drop n with
    | [] => False
    | ro :: rest => SpG P ro s1 (fun s2 => chainG P ns rest s2 K))
theorem inorderG (hG : G.N = N) (hrl : trL P N fz ops ops.toList = some rl) {Q : Exit → Act → World → Prop} {K : S → Prop} (hK : ∀ s E a w, K s → SatS G s E a w → Q .normal a w) :
    ∀ (ns : List Nat) (i m : Nat) (s : S) (E : Env) (a : Act) (w : World), i + m = ops.size → chainG P ns (rl.drop i) s K → SatS G s E a w → wpOpsIn (W1 r) nf P ops Q (List.range' i m) a w
  | [], i, m, s, E, a, w, hi, hc, hS => inorder hG hrl hK m i s E a w hi hc hS
  | n :: ns, i, m, s, E, a, w, hi, hc, hS => by
    obtain ⟨hl, hsp⟩ := trL_spec hrl
    have hlen : rl.length = ops.size := by rw [hl, Array.length_toList]
    simp only [chainG] at hc
    rcases Nat.lt_or_ge n m with hn | hn
    rotate_left
    · -- there is none left
      have hd : (rl.drop i).drop n = [] := List.drop_eq_nil_of_le (by rw [List.length_drop]; omega)
      rw [hd] at hc
      have h1 := inorder_part (r := r) (nf := nf) (Q := Q) (m := 0) (e := i + m) hG hrl (K := fun _ => False) (fun s1 E1 a1 w1 hk hS1 => hk.elim) m i s E a w rfl (by omega) (by
        rw [List.take_of_length_le (by rw [List.length_drop]; omega)] at hc
        rwa [List.take_of_length_le (by rw [List.length_drop]; omega)]) hS
      rwa [Nat.add_zero] at h1
    · have h1 := inorder_part (r := r) (nf := nf) (Q := Q) (m := m - n) (e := i + n) hG hrl (K := fun s1 => match (rl.drop i).drop n with
        | [] => False
        | ro :: rest => SpG P ro s1 (fun s2 => chainG P ns rest s2 K)) (fun s1 E1 a1 w1 hk hS1 => by
          have hil : i + n < ops.size := by omega
          obtain ⟨ro, g1, g2⟩ := hsp (i + n) ops[i + n] (by simp [hil])
          have hdrop : (rl.drop i).drop n = ro :: rl.drop (i + n + 1) := by
            rw [List.drop_drop]
            have hlt : i + n < rl.length := by omega
            rw [List.drop_eq_getElem_cons hlt]
            congr 1
            rw [List.getElem?_eq_getElem hlt] at g1
            simpa using g1
          rw [hdrop] at hk
          simp only [] at hk
          rw [show m - n = (m - n - 1) + 1 by omega, List.range'_succ, wpOpsIn_cons]
          unfold wpOpIn
          simp only [Array.getElem?_eq_getElem hil]
          exact spg_step hG g2 hS1 hk _ Q (fun s' E' a' w' hc' hS' => inorderG hG hrl hK ns (i + n + 1) (m - n - 1) s' E' a' w' (by omega) hc' hS')) n i s E a w rfl (by omega) hc hS
      rwa [show n + (m - n) = m by omega] at h1
end
section
variable {P : Program} {N : Nat} {s : S} {Q : Ex → S → Prop}
theorem W_regG {rl : List RO} {ks : List Nat} (ns : List Nat) (h : chainG P ns rl s (fun s' => Q .n (s'.keep ks))) : W P N (regL ks none rl) s Q := by
  intro hm code fz ht r nf G E x w hG hS
  obtain ⟨id, ops, d, rfl, hrl, hd⟩ := trC_reg ht
  rcases hd with ⟨rfl, hx⟩ | ⟨rfl, hx, hE, hO⟩
  · refine wpIn_region ?_
    rw [List.range_eq_range']
    exact inorderG hG.1 hrl (K := fun s' => Q .n (s'.keep ks)) (fun s E a w hk hS => ⟨_, E, hk, keep_sat ks hS⟩) ns 0 ops.size s E x w (by omega) (by rw [List.drop_zero]; exact h) hS
  · cases hx
end
theorem SpG_no {P : Program} {dst : Option Nat} {op : R} {g : Nat} {c w : Bool} {s : S} {K : S → Prop} (hg : lk s.tm g = .v (.bool c)) (hc : (c == w) = false) (h : K (s.app dst [] (.v undef) none)) : SpG P ⟨dst, op, some (g, w)⟩ s K :=
  ⟨[(g, c, w)], by simp only [pathOf, hg], .inr ⟨fun hp => by have := hp.1; subst this; simp at hc, h⟩⟩
theorem SpG_go {P : Program} {dst : Option Nat} {op : R} {g : Nat} {w : Bool} {s : S} {K : S → Prop} (hg : lk s.tm g = .v (.bool w)) (hu : underAll [(g, w, w)] s.tm op.uops) (hb : (stepP s [(g, w, w)] op).setB = true) (h : chain2 P none (stepP s [(g, w, w)] op) [] dst [] s K) : SpG P ⟨dst, op, some (g, w)⟩ s K :=
  ⟨[(g, w, w)], by simp only [pathOf, hg], .inl ⟨⟨rfl, trivial⟩, hu, hb, h⟩⟩
end Sy

namespace Sy
open Go Go.RowKit
set_option linter.unusedVariables false
theorem satT_consts {E : Env} {w : World} : ∀ {ys vs : List Value}, satT E w (ys.map .v) vs → vs = ys
  | [], vs, h => h
  | y :: ys, vs, h => by
    simp only [List.map_cons, satT, sat] at h
    obtain ⟨x, xs, rfl, rfl, h⟩ := h
    rw [satT_consts h]
theorem Inl_grow {P : Program} {f : Nat} (hb : hasBody P f = true) {s : S} {k st T n : Nat} {α : Type} {d : α} {F : α → List AV} {l l' : List α} (hk : lm s.mem k = some (.row st T n d F l)) (hn : 0 < n) {ys : List Value}
    (h : ∀ (B : Nat) (Fz : Nat → Prop) (w : World) (hh : Hd) (xs : List Value), w.ownsRow B T n (hv hh) l.length xs → rowSat Fz w n F l xs → Calls P f (hv hh :: ys).toArray w fun e w' => ∃ (h' : Hd) (xs' : List Value), e = .returned (hv h') ∧ w'.ownsRow B T n (hv h') l'.length xs' ∧ w.grownBy w' (hv hh).ownBlock ∧ rowSat Fz w n F l' xs' ∧ ∀ b, (hv h').ownBlock = some b → (hv hh).ownBlock = some b ∨ w.heap.size ≤ b)
    {K : AV → S → Prop} (hK : K (.row k (st + 1)) ⟨s.tm, setm s.mem k (.row (st + 1) T n d F l'), s.nx⟩) : Inl P f (.row k st :: ys.map .v) s K := by
  refine ⟨hb, fun G E a w vs hS hT => ?_⟩
  simp only [satT, sat] at hT
  obtain ⟨y, zs, rfl, ⟨hh, e1, rfl⟩, hT⟩ := hT
  obtain rfl := satT_consts hT
  obtain ⟨v, xs, e2, hown, _, hrow⟩ := hS.st.memv k _ hk
  rw [e1] at e2
  cases e2
  refine (h G.w0.heap.size E.F w hh xs hown hrow).mono ?_
  rintro e w' ⟨h', xs', rfl, hown', hg, hrow', hnew⟩
  have S := hS.st
  obtain ⟨hbk, hlast⟩ := S.stampR k st T n α d F l hk
  have hfresh : E.h k (st + 1) = none := hlast _ (by omega)
  have hwas : ∀ b, (hv hh).ownBlock = some b → blkLoc E k (.row st T n d F l) = some b := fun b hb => by simp only [blkLoc, e1, Option.bind_some]; exact hb
  have hle : E.le (E.addH k (st + 1) h') := ⟨fun _ _ h => h, fun k' s' x hx => by
      by_cases e : k' = k ∧ s' = st + 1
      · rw [e.1, e.2, hfresh] at hx; cases hx
      · simp [Env.addH, e, hx], fun _ h => h⟩
  have hnF : ∀ b, E.F b → (hv hh).ownBlock ≠ some b := fun b hF he => S.nF k _ b hk (hwas b he) hF
  have hlt : ∀ k blk b, lm s.mem k = some blk → blkLoc E k blk = some b → b < w.heap.size := fun k blk b hk hb => (blkLoc_lt blk (S.memv k blk hk) b hb).2
  have hrowge : ∀ b, (hv hh).ownBlock = some b → G.w0.heap.size ≤ b := fun b he => (blkLoc_lt _ (S.memv k _ hk) b (hwas b he)).1
  have hFs : ∀ b, E.F b → w'.heap[b]? = w.heap[b]? := fun b hF => hg.block b (S.fz b hF).1 (fun he => hnF b hF he.symm)
  refine ⟨_, .row k (st + 1), _, E.addH k (st + 1) h', rfl, hK, ⟨?_, fun j hj => ?_⟩, by simp only [sat]; exact ⟨h', by simp [Env.addH], rfl⟩⟩
  · show Sat G (lk s.tm) (lm (setm s.mem k (.row (st + 1) T n d F l'))) _ a w'
    rw [lm_setm]
    refine S.step k (.row (st + 1) T n d F l') (E.addH k (st + 1) h') w' hle hFs (KeepsOthers.of_grownBy hg (fun j o he ho => blkLoc_cells _ rfl (S.memv k _ hk) j (hwas j he) o ho)) ?_ ?_ (fun k' hk => ⟨rfl, fun s' => by simp [Env.addH, hk]⟩) (fun k' blk b hk' hm hb => ⟨?_, S.nF k' blk b hm hb⟩) ?_ ?_ ?_ ?_
    · exact ⟨hg.os.trans S.ext.os, hg.tape.trans S.ext.tape, hg.output.trans S.ext.output, Nat.le_trans S.ext.size hg.size, fun i hi => (hg.block i (Nat.lt_of_lt_of_le hi S.ext.size) (fun he => by have := hrowge i he.symm; omega)).trans (S.ext.block i hi)⟩
    · intro b hF
      exact ⟨Nat.lt_of_lt_of_le (S.fz b hF).1 hg.size, (S.fz b hF).2⟩
    · refine hg.block b (hlt k' blk b hm hb) (fun he => hk' ?_)
      exact S.inj k' k blk _ b hm hk hb (hwas b he.symm)
    · refine ⟨h', xs', by simp [Env.addH], hown', hn, fun i x hx => ?_⟩
      obtain ⟨h1, h2⟩ := hrow' i x hx
      exact ⟨h1, fsatL_mono (fun _ h => h) hFs _ _ h2⟩
    · intro b hb
      have hb' : (hv h').ownBlock = some b := by simpa [blkLoc, Env.addH] using hb
      refine ⟨fun hF => ?_, fun k' blk hk' hm he => ?_⟩
      · rcases hnew b hb' with h1 | h1
        · exact hnF b hF h1
        · exact absurd (S.fz b hF).1 (by omega)
      · rcases hnew b hb' with h1 | h1
        · exact hk' (S.inj k' k blk _ b hm hk he (hwas b h1))
        · exact absurd (hlt k' blk b hm he) (by omega)
    · intro l' s' he; cases he
    · intro s1 e' n' α' d' f' l' he
      cases he
      exact ⟨hbk, fun s' hs => by simp only [Env.addH]; rw [if_neg (by omega)]; exact hlast s' (by omega)⟩
  · have hkn : k < s.nx := by
      rcases Nat.lt_or_ge k s.nx with h1 | h1
      · exact h1
      · rw [hS.nx k h1] at hk; cases hk
    have hj' : s.nx ≤ j := hj
    show lm (setm s.mem k _) j = none
    rw [lm_set_other _ _ (by omega)]
    exact hS.nx j hj'
end Sy

namespace Sy
open Go Go.RowKit
set_option linter.unusedVariables false
set_option linter.unusedSimpArgs false
theorem le_moveC {s : S} (t K K2 : Nat) (ks bs : List Nat) (nx : Nat) (l : List AV) (ht : lk s.tm t = .own K2 0) (hm : lm s.mem K2 = some (.cells l)) (hl : frzAll l = true) (hK : has bs K = false) (hK2 : has bs K2 = false)
    (h1 : okTm bs (ks.map fun t => (t, lk s.tm t)) = true) (h2 : okMem bs s.mem = true) (hn : allLt nx bs = true) (hKn : K < nx) :
    le s ⟨(t, .own K 0) :: ks.map (fun t => (t, lk s.tm t)), (K, .cells l) :: keepM bs s.mem, nx⟩ := by
  intro G E a w hS
  let E' : Env := ⟨fun k => if k = K then E.b K2 else if has bs k then E.b k else none, fun k s' => if has bs k then E.h k s' else none, E.F⟩
  have hne : ∀ k, has bs k = true → k ≠ K := fun k hk e => by rw [e, hK] at hk; cases hk
  have hb : ∀ k, has bs k = true → E'.b k = E.b k := fun k hk => by simp [E', hk, hne k hk]
  have hh : ∀ k, has bs k = true → ∀ s, E'.h k s = E.h k s := fun k hk s => by simp [E', hk]
  have hle : (E.res bs).le E' := {
    b := fun k x hx => by
      simp only [Env.res] at hx
      split at hx
      · rename_i hk; rw [hb k hk]; exact hx
      · cases hx
    h := fun k s x hx => by
      simp only [Env.res] at hx
      split at hx
      · rename_i hk; rw [hh k hk]; exact hx
      · cases hx
    F := fun _ h => h }
  have hres : ∀ (a : AV) (y : Value), onlyB bs a = true → sat E w a y → sat E' w a y := fun a y ho hs => sat_mono hle (fun _ _ => rfl) a y (sat_res a y ho hs)
  have hKh : E'.b K = E.b K2 := by simp [E']
  have hlm : ∀ k blk, lm ((K, Blk.cells l) :: keepM bs s.mem) k = some blk → (k = K ∧ blk = .cells l) ∨ (has bs k = true ∧ lm s.mem k = some blk) := fun k blk hk => by
    simp only [lm] at hk
    split at hk
    · rename_i h; cases hk; exact .inl ⟨h, rfl⟩
    · rw [lm_keepM] at hk
      split at hk
      · rename_i h; exact .inr ⟨h, hk⟩
      · cases hk
  have hrow := hS.st.memv K2 _ hm
  have hloc : blkLoc E' K (.cells l) = blkLoc E K2 (.cells l) := by simp only [blkLoc, hKh]
  refine ⟨E', ⟨?_, fun k hk => ?_⟩⟩
  · exact {
      ext := hS.st.ext
      fz := hS.st.fz
      tmv := fun t' => by
        simp only [lk]
        split
        · rename_i h; subst h
          have := hS.st.tmv t'
          rw [ht] at this
          simp only [sat] at this ⊢
          obtain ⟨x, q1, q2⟩ := this
          exact ⟨x, by rw [hKh]; exact q1, q2⟩
        · refine hres _ _ (okTm_spec h1) ?_
          rcases lk_keep ks (lk s.tm) t' with h | h
          · rw [h]; exact hS.st.tmv t'
          · rw [h]; simp only [sat]
      sz := hS.st.sz
      memv := fun k blk hk => by
        rcases hlm k blk hk with ⟨rfl, rfl⟩ | ⟨hk1, hk2⟩
        · obtain ⟨b, cs, T, q1, q2, q3, q4⟩ := hrow
          exact ⟨b, cs, T, by rw [hKh]; exact q1, q2, q3, satL_mono hle (fun _ _ => rfl) _ _ (satL_res _ _ (onlyL_frz1 bs _ hl) q4)⟩
        have hbs := hS.st.memv k blk hk2
        have ho := okMem_spec h2 hk1 hk2
        cases blk with
        | cells l =>
          obtain ⟨b, cs, T, q1, q2, q3, q4⟩ := hbs
          exact ⟨b, cs, T, by rw [hb k hk1]; exact q1, q2, q3, satL_mono hle (fun _ _ => rfl) _ _ (satL_res _ _ (by simpa only [okBlk] using ho) q4)⟩
        | row s' e n d f l =>
          obtain ⟨v, xs, q1, q2, q3, q4⟩ := hbs
          exact ⟨v, xs, by rw [hh k hk1]; exact q1, q2, q3, q4⟩
        | oth x =>
          cases x with
          | fr vs tm => exact fun t => hres _ _ (okTm_spec ho) (hbs t)
          | lp l rec tm => exact ⟨hbs.1, hbs.2.1, fun t => hres _ _ (okTm_spec ho) (hbs.2.2 t)⟩
          | mp b kd g => exact hbs
      inj := fun k k' blk blk' b hk hk' hbl hbl' => by
        rcases hlm k blk hk with ⟨rfl, rfl⟩ | ⟨hk1, hk2⟩
        · rcases hlm k' blk' hk' with ⟨rfl, rfl⟩ | ⟨hk1', hk2'⟩
          · rfl
          · exfalso
            rw [hloc] at hbl
            rw [blkLoc_same (hb k' hk1') (hh k' hk1')] at hbl'
            have := hS.st.inj K2 k' _ blk' b hm hk2' hbl hbl'
            rw [← this, hK2] at hk1'; cases hk1'
        · rcases hlm k' blk' hk' with ⟨rfl, rfl⟩ | ⟨hk1', hk2'⟩
          · exfalso
            rw [hloc] at hbl'
            rw [blkLoc_same (hb k hk1) (hh k hk1)] at hbl
            have := hS.st.inj k K2 blk _ b hk2 hm hbl hbl'
            rw [this, hK2] at hk1; cases hk1
          · rw [blkLoc_same (hb k hk1) (hh k hk1)] at hbl
            rw [blkLoc_same (hb k' hk1') (hh k' hk1')] at hbl'
            exact hS.st.inj k k' blk blk' b hk2 hk2' hbl hbl'
      nF := fun k blk b hk hbl => by
        rcases hlm k blk hk with ⟨rfl, rfl⟩ | ⟨hk1, hk2⟩
        · rw [hloc] at hbl
          exact hS.st.nF K2 _ b hm hbl
        · rw [blkLoc_same (hb k hk1) (hh k hk1)] at hbl
          exact hS.st.nF k blk b hk2 hbl
      fresh := fun k hk => by
        have hkK : k ≠ K := fun e => by
          subst e
          simp [lm] at hk
        have hk' : lm (keepM bs s.mem) k = none := by
          have : lm ((K, Blk.cells l) :: keepM bs s.mem) k = none := hk
          simp only [lm] at this
          rwa [if_neg hkK] at this
        by_cases hx : has bs k = true
        · rw [lm_keepM, if_pos hx] at hk'
          obtain ⟨q1, q2⟩ := hS.st.fresh k hk'
          exact ⟨by rw [hb k hx]; exact q1, fun s => by rw [hh k hx]; exact q2 s⟩
        · exact ⟨by simp [E', hx, hkK], fun s => by simp [E', hx]⟩
      stampC := fun k l s' hk => by
        rcases hlm k _ hk with ⟨rfl, h⟩ | ⟨hk1, hk2⟩
        · simp [E', hK]
        · rw [hh k hk1]; exact hS.st.stampC k l s' hk2
      stampR := fun k s' e n' α' d' f' l' hk => by
        rcases hlm k _ hk with ⟨rfl, h⟩ | ⟨hk1, hk2⟩
        · cases h
        · have := hS.st.stampR k s' e n' α' d' f' l' hk2
          exact ⟨by rw [hb k hk1]; exact this.1, fun s'' hs => by rw [hh k hk1]; exact this.2 s'' hs⟩
      stampO := fun k x hk => by
        rcases hlm k _ hk with ⟨_, h⟩ | ⟨hk1, hk2⟩
        · cases h
        · have := hS.st.stampO k x hk2
          exact ⟨by rw [hb k hk1]; exact this.1, fun s'' => by rw [hh k hk1]; exact this.2 s''⟩
      df := hS.st.df
      dn := hS.st.dn
      kd := hS.st.kd
      kF := hS.st.kF
      rd := hS.st.rd }
  · show lm ((K, Blk.cells l) :: keepM bs s.mem) k = none
    have hk' : nx ≤ k := hk
    simp only [lm]
    rw [if_neg (by omega), lm_keepM]
    split
    · rename_i hx
      have := allLt_spec hn hx; omega
    · rfl
end Sy

namespace Sy
open Go Go.RowKit
set_option linter.unusedVariables false
theorem W_seqM {P : Program} {N : Nat} {ks : List Nat} {a b : C} {s : S} {Q : Ex → S → Prop} (M : S → Prop) (h : W P N a s (thenQ (fun s' => ∃ s'', le s' s'' ∧ M s'') Q)) (h2 : ∀ s, M s → W P N b s Q) : W P N (seqL ks a b) s Q := by
  unfold seqL
  exact W_seq_mid M h h2
theorem lm_end {K : Nat} {b : Blk} : ∀ {M : List (Nat × Blk)}, lm M K = none → ∀ k, lm (M ++ [(K, b)]) k = lm ((K, b) :: M) k
  | [], _, k => rfl
  | (s, a) :: M, h, k => by
    simp only [lm] at h
    split at h
    · cases h
    · rename_i hne
      have ih := lm_end (b := b) h k
      simp only [List.cons_append, lm] at ih ⊢
      rw [ih]
      by_cases q : k = K
      · subst q; simp [hne]
      · simp [q]
theorem le_moveE {s : S} (t K K2 : Nat) (ks bs : List Nat) (nx : Nat) (l : List AV) (ht : lk s.tm t = .own K2 0) (hm : lm s.mem K2 = some (.cells l)) (hl : frzAll l = true) (hK : has bs K = false) (hK2 : has bs K2 = false)
    (h1 : okTm bs (ks.map fun t => (t, lk s.tm t)) = true) (h2 : okMem bs s.mem = true) (hn : allLt nx bs = true) (hKn : K < nx) :
    le s ⟨(t, .own K 0) :: ks.map (fun t => (t, lk s.tm t)), keepM bs s.mem ++ [(K, .cells l)], nx⟩ := by
  have h0 : lm (keepM bs s.mem) K = none := by rw [lm_keepM, if_neg (by rw [hK]; simp)]
  refine (le_moveC t K K2 ks bs nx l ht hm hl hK hK2 h1 h2 hn hKn).trans (leS_same (s := ⟨(t, .own K 0) :: ks.map (fun t => (t, lk s.tm t)), (K, .cells l) :: keepM bs s.mem, nx⟩) (keepM bs s.mem ++ [(K, .cells l)]) nx (fun k => lm_end h0 k) (fun k hk => ?_)).le
  rw [lm_end h0]
  simp only [lm]
  rw [if_neg (by omega), lm_keepM]
  split
  · rename_i hx
    have := allLt_spec hn hx; omega
  · rfl
end Sy

