/- Part 3 of the proof of: TopLessAsked: for every input the law returns true; each argument reads behind the call as it read before. -/
import Derived.Test.YtolnclkcokckeaaGreatP2
import Derived.Shelf.Sort.Plain
import Derived.Shelf.Slices.In.SortNone
namespace Sy
open Go Go.RowKit
set_option linter.unusedVariables false
set_option linter.unusedSimpArgs false
def outN (x : ByteArray) (p : Nat) : AV := if p < x.size then .tup [.v (.bool true), .v (goInt p), .v (.int .i32 (Utf8.decode x p).1)] else .tup [.v (.bool false)]
def advN (x : ByteArray) (p : Nat) : Nat := if p < x.size then p + (Utf8.decode x p).2 else p
section
variable {P : Program} {r : Option Nat} {nf : Nat} {G : Gl} {tm : Nat → AV} {mem : Nat → Option Blk} {E : Env} {a : Act} {w : World} {o : Oper}
theorem Sat.setM (S : Sat G tm mem E a w) {k b kd : Nat} {g g' : Value → Option Value} (hk : mem k = some (.oth (.mp b kd g))) {es : Array MapEntry} {cl : Nat} (hM : MapIs kd es.toList g') :
    Sat G tm (upd mem k (some (.oth (.mp b kd g')))) E a (w.putObj b (.map es cl)) := by
  obtain ⟨h1, es0, cl0, h2, h3⟩ := S.memv k _ hk
  have hlt : b < w.heap.size := (Array.getElem?_eq_some_iff.1 h2).1
  have hlF : ¬ E.F b := S.nF k _ b hk rfl
  have hFs : ∀ c, E.F c → (w.putObj b (.map es cl)).heap[c]? = w.heap[c]? := fun c hc => putD_other (fun e => hlF (e ▸ hc))
  have hof : ∀ j blk, upd mem k (some (Blk.oth (.mp b kd g'))) j = some blk → (j = k ∧ blk = .oth (.mp b kd g')) ∨ (j ≠ k ∧ mem j = some blk) := fun j blk h => by
    simp only [upd] at h
    split at h
    · rename_i he; cases h; exact .inl ⟨he, rfl⟩
    · rename_i he; exact .inr ⟨he, h⟩
  exact {
    ext := ⟨S.ext.os, S.ext.tape, S.ext.output, by rw [putD_size]; exact S.ext.size, fun i hi => (putD_other (by omega)).trans (S.ext.block i hi)⟩
    fz := fun c hc => by rw [putD_size]; exact S.fz c hc
    tmv := fun t => sat_mono (Env.le.refl E) hFs _ _ (S.tmv t)
    sz := S.sz
    memv := fun j blk h => by
      rcases hof j blk h with ⟨rfl, rfl⟩ | ⟨hj, q⟩
      · exact ⟨h1, es, cl, World.putObj_heap_same hlt, hM⟩
      · refine blkSat_mono (Env.le.refl E) hFs blk (fun c hc => putD_other (fun e => hj ?_)) (S.memv j blk q)
        exact S.inj j k blk _ b q hk (e ▸ hc) rfl
    inj := fun j j' blk blk' c h h' hc hc' => by
      rcases hof j blk h with ⟨g1, g2⟩ | ⟨hj, q⟩
      · rcases hof j' blk' h' with ⟨g1', g2'⟩ | ⟨hj', q'⟩
        · rw [g1, g1']
        · subst g2; rw [g1]; exact S.inj k j' _ blk' c hk q' hc hc'
      · rcases hof j' blk' h' with ⟨g1', g2'⟩ | ⟨hj', q'⟩
        · subst g2'; rw [g1']; exact S.inj j k blk _ c q hk hc hc'
        · exact S.inj j j' blk blk' c q q' hc hc'
    nF := fun j blk c h hc => by
      rcases hof j blk h with ⟨g1, g2⟩ | ⟨hj, q⟩
      · subst g2; exact S.nF k _ c hk hc
      · exact S.nF j blk c q hc
    fresh := fun j h => by
      simp only [upd] at h
      split at h
      · cases h
      · exact S.fresh j h
    stampC := fun j l' s' h => by
      rcases hof j _ h with ⟨_, q⟩ | ⟨hj, q⟩
      · cases q
      · exact S.stampC j l' s' q
    stampR := fun j s' e n α d f l' h => by
      rcases hof j _ h with ⟨_, q⟩ | ⟨hj, q⟩
      · cases q
      · exact S.stampR j s' e n α d f l' q
    stampO := fun j x h => by
      rcases hof j _ h with ⟨g1, _⟩ | ⟨hj, q⟩
      · rw [g1]; exact S.stampO k _ hk
      · exact S.stampO j x q
    df := fun d hd => by
      obtain ⟨D, rfl, q1, q2, q3⟩ := S.df d hd
      exact ⟨D, rfl, q1, q2, (putD_other (fun e => by subst e; rw [q3] at h2; cases h2)).trans q3⟩
    dn := S.dn
    kd := ⟨by rw [putD_size]; exact S.kd.size, fun j x hj => by
        have := S.kd.dfr j x hj
        exact (putD_other (fun e => by subst e; rw [this] at h2; cases h2)).trans this, fun j rec hj => by
        obtain ⟨rec', hr⟩ := S.kd.lps j rec hj
        exact ⟨rec', (putD_other (fun e => by subst e; rw [hr] at h2; cases h2)).trans hr⟩⟩
    kF := S.kF
    rd := fun j hj => by
      obtain ⟨rec', hr⟩ := S.rd j hj
      exact ⟨rec', (putD_other (fun e => by subst e; rw [hr] at h2; cases h2)).trans hr⟩ }
theorem Sat.setI (S : Sat G tm mem E a w) {k b : Nat} {x : ByteArray} {p : Nat} (hk : mem k = some (.oth (.si b x p))) (p' : Nat) :
    Sat G tm (upd mem k (some (.oth (.si b x p')))) E a (w.putObj b (.stringIter x p')) := by
  obtain ⟨h1, h2⟩ := S.memv k _ hk
  have hlt : b < w.heap.size := (Array.getElem?_eq_some_iff.1 h2).1
  have hlF : ¬ E.F b := S.nF k _ b hk rfl
  have hFs : ∀ c, E.F c → (w.putObj b (.stringIter x p')).heap[c]? = w.heap[c]? := fun c hc => putD_other (fun e => hlF (e ▸ hc))
  have hof : ∀ j blk, upd mem k (some (Blk.oth (.si b x p'))) j = some blk → (j = k ∧ blk = .oth (.si b x p')) ∨ (j ≠ k ∧ mem j = some blk) := fun j blk h => by
    simp only [upd] at h
    split at h
    · rename_i he; cases h; exact .inl ⟨he, rfl⟩
    · rename_i he; exact .inr ⟨he, h⟩
  exact {
    ext := ⟨S.ext.os, S.ext.tape, S.ext.output, by rw [putD_size]; exact S.ext.size, fun i hi => (putD_other (by omega)).trans (S.ext.block i hi)⟩
    fz := fun c hc => by rw [putD_size]; exact S.fz c hc
    tmv := fun t => sat_mono (Env.le.refl E) hFs _ _ (S.tmv t)
    sz := S.sz
    memv := fun j blk h => by
      rcases hof j blk h with ⟨rfl, rfl⟩ | ⟨hj, q⟩
      · exact ⟨h1, World.putObj_heap_same hlt⟩
      · refine blkSat_mono (Env.le.refl E) hFs blk (fun c hc => putD_other (fun e => hj ?_)) (S.memv j blk q)
        exact S.inj j k blk _ b q hk (e ▸ hc) rfl
    inj := fun j j' blk blk' c h h' hc hc' => by
      rcases hof j blk h with ⟨g1, g2⟩ | ⟨hj, q⟩
      · rcases hof j' blk' h' with ⟨g1', g2'⟩ | ⟨hj', q'⟩
        · rw [g1, g1']
        · subst g2; rw [g1]; exact S.inj k j' _ blk' c hk q' hc hc'
      · rcases hof j' blk' h' with ⟨g1', g2'⟩ | ⟨hj', q'⟩
        · subst g2'; rw [g1']; exact S.inj j k blk _ c q hk hc hc'
        · exact S.inj j j' blk blk' c q q' hc hc'
    nF := fun j blk c h hc => by
      rcases hof j blk h with ⟨g1, g2⟩ | ⟨hj, q⟩
      · subst g2; exact S.nF k _ c hk hc
      · exact S.nF j blk c q hc
    fresh := fun j h => by
      simp only [upd] at h
      split at h
      · cases h
      · exact S.fresh j h
    stampC := fun j l' s' h => by
      rcases hof j _ h with ⟨_, q⟩ | ⟨hj, q⟩
      · cases q
      · exact S.stampC j l' s' q
    stampR := fun j s' e n α d f l' h => by
      rcases hof j _ h with ⟨_, q⟩ | ⟨hj, q⟩
      · cases q
      · exact S.stampR j s' e n α d f l' q
    stampO := fun j x h => by
      rcases hof j _ h with ⟨g1, _⟩ | ⟨hj, q⟩
      · rw [g1]; exact S.stampO k _ hk
      · exact S.stampO j x q
    df := fun d hd => by
      obtain ⟨D, rfl, q1, q2, q3⟩ := S.df d hd
      exact ⟨D, rfl, q1, q2, (putD_other (fun e => by subst e; rw [q3] at h2; cases h2)).trans q3⟩
    dn := S.dn
    kd := ⟨by rw [putD_size]; exact S.kd.size, fun j x hj => by
        have := S.kd.dfr j x hj
        exact (putD_other (fun e => by subst e; rw [this] at h2; cases h2)).trans this, fun j rec hj => by
        obtain ⟨rec', hr⟩ := S.kd.lps j rec hj
        exact ⟨rec', (putD_other (fun e => by subst e; rw [hr] at h2; cases h2)).trans hr⟩⟩
    kF := S.kF
    rd := fun j hj => by
      obtain ⟨rec', hr⟩ := S.rd j hj
      exact ⟨rec', (putD_other (fun e => by subst e; rw [hr] at h2; cases h2)).trans hr⟩ }
theorem ok1_mk (S : Sat G tm mem E a w) {nx T kd : Nat} (hnx : mem nx = none) (ho : o.op = .makeMap T none) :
    Ok1 P r nf G tm mem E a w o (.v (.map (some w.heap.size))) (some (nx, .oth (.mp w.heap.size kd fun _ => none))) := fun K Q hK => by
  have hbel : Below w.heap.size w (w.alloc (.map #[] 0)) := (Below.refl _ w).alloc (Nat.le_refl _) _
  have hfr := S.fresh nx hnx
  have hlt : ∀ k blk b, mem k = some blk → blkLoc E k blk = some b → b < w.heap.size := fun k blk b hk hb => (blkLoc_lt blk (S.memv k blk hk) b hb).2
  have hw0 : G.w0.heap.size ≤ w.heap.size := S.ext.size
  have step := S.step nx (.oth (.mp w.heap.size kd fun _ => none)) E (w.alloc (.map #[] 0)) (Env.le.refl E) (fun b hb => hbel.block b (S.fz b hb).1) (keeps_grow hbel) (S.ext.trans (hbel.mono hw0))
    (fun b hb => ⟨Nat.lt_of_lt_of_le (S.fz b hb).1 hbel.size, (S.fz b hb).2⟩) (fun k _ => ⟨rfl, fun _ => rfl⟩)
    (fun k blk b hk hkm hb => ⟨hbel.block b (hlt k blk b hkm hb), S.nF k blk b hkm hb⟩)
    ⟨hw0, #[], 0, World.alloc_heap_new w _, mapIs_nil kd⟩
    (fun b hb => by
      cases hb
      exact ⟨fun hF => absurd (S.fz _ hF).1 (by omega), fun k blk _ hkm hb' => absurd (hlt k blk _ hkm hb') (by omega)⟩)
    (fun l' s' hh => by cases hh) (fun s' e n α d f l' hh => by cases hh) (fun y hy => hfr)
  refine exec_val (v := .map (some w.heap.size)) (w' := w.alloc (.map #[] 0)) (by simp [ho]) (by simp [execOp, ho, run_makeMap]) (hK E _ _ (Env.le.refl E) step (by simp only [sat]))
theorem ok1_up (S : Sat G tm mem E a w) {j b T kd : Nat} {g : Value → Option Value} {m k x : Operand} {kv xv z : Value} (hj : mem j = some (.oth (.mp b kd g))) (hT : mapB P T = some (kd, z)) (ho : o.op = .mapUpdate T m k x ∨ o.op = .insert T m k x)
    (hm : a.eval m = .map (some b)) (hk : a.eval k = kv) (hok : okK kd kv) (hx : a.eval x = xv) : Ok1 P r nf G tm mem E a w o (.v undef) (some (j, .oth (.mp b kd (updG g kv xv)))) := fun K Q hK => by
  obtain ⟨kt, et, i, q1, q2, q3, q4⟩ := mapB_some hT
  obtain ⟨h1, hs⟩ := S.memv j _ hj
  obtain ⟨es, cl, h2, h3⟩ := run_update (P := P) q1 q2 hs hok xv
  refine exec_skip (w' := w.putObj b (.map es cl)) (by rcases ho with ho | ho <;> simp [ho]) ?_ (hK E _ _ (Env.le.refl E) (S.setM hj h3) (by simp only [sat]))
  rcases ho with ho | ho <;> simp [execOp, ho, hm, hk, hx, h2]
theorem ok1_lk (S : Sat G tm mem E a w) {j b T kd : Nat} {g : Value → Option Value} {m k : Operand} {kv z : Value} {ok : Bool} (hj : mem j = some (.oth (.mp b kd g))) (hT : mapB P T = some (kd, z)) (ho : o.op = .lookup T m k ok)
    (hm : a.eval m = .map (some b)) (hk : a.eval k = kv) (hok : okK kd kv) : Ok1 P r nf G tm mem E a w o (outM ok z g kv) none := by
  obtain ⟨kt, et, i, q1, q2, q3, q4⟩ := mapB_some hT
  obtain ⟨h1, hs⟩ := S.memv j _ hj
  refine ok1_pure S (by simp [ho]) ?_ (outM_sat ok z g kv)
  simp [execOp, ho, hm, hk, run_lookup (P := P) q1 q2 q3 q4 hs hok ok]
theorem MapIs.count {kd : Nat} {es : List MapEntry} {g : Value → Option Value} (h : MapIs kd es g) {ks : List Value} (hn : ks.Nodup) (hk : ∀ k, g k ≠ none ↔ k ∈ ks) : es.length = ks.length := by
  have hp : (es.map (·.key)).Perm ks := (List.perm_ext_iff_of_nodup h.nd hn).2 fun k => by
    rw [← hk, List.mem_map, Option.ne_none_iff_exists']
    constructor
    · rintro ⟨e, he, hq⟩; exact ⟨_, (h.val k _).2 ⟨e, he, hq, rfl⟩⟩
    · rintro ⟨v, hv⟩
      obtain ⟨e, he, hq, _⟩ := (h.val k v).1 hv
      exact ⟨e, he, hq⟩
  have := hp.length_eq
  rwa [List.length_map] at this
theorem ok1_ln (S : Sat G tm mem E a w) {j b T kd kt et : Nat} {g : Value → Option Value} {ks : List Value} {x : Operand} (hj : mem j = some (.oth (.mp b kd g))) (hT : P.underlying T = some (.map kt et))
    (ho : o.op = .call { callee := .builtin .len, args := #[x], argTypes := #[T] }) (hm : a.eval x = .map (some b)) (hn : ks.Nodup) (hk : ∀ k, g k ≠ none ↔ k ∈ ks) :
    Ok1 P r nf G tm mem E a w o (.v (.int .i64 ks.length)) none := by
  obtain ⟨h1, es, cl, h2, h3⟩ := S.memv j _ hj
  have hl : es.size = ks.length := by
    have := h3.count hn hk
    rwa [Array.length_toList] at this
  have hg : (getObj b).run P w = .ok (.map es cl) w := by simp [getObj, Sem.run, h2]
  refine ok1_pure S (by simp [ho]) (v := .int .i64 ks.length) ?_ rfl
  simp [execOp, ho, resolve, invoke, builtin, hm, Builtin.len_, Sem.run_bind, run_underlying hT, hg, goInt, hl]
theorem outN_sat {E : Env} {w : World} (x : ByteArray) (p : Nat) : sat E w (outN x p) (if p < x.size then .tuple #[.bool true, goInt p, .int .i32 (Utf8.decode x p).1] else .tuple #[.bool false]) := by
  unfold outN
  split
  · simp only [sat, satT]
    exact ⟨[.bool true, goInt p, .int .i32 (Utf8.decode x p).1], rfl, .bool true, _, rfl, rfl, goInt p, _, rfl, rfl, _, _, rfl, rfl, rfl⟩
  · simp only [sat, satT]
    exact ⟨[.bool false], rfl, .bool false, _, rfl, rfl, rfl⟩
theorem ok1_rg (S : Sat G tm mem E a w) {nx T : Nat} {x : Operand} {v : ByteArray} (hnx : mem nx = none) (hT : P.underlying T = some .string) (ho : o.op = .range T x) (hx : a.eval x = .string v) :
    Ok1 P r nf G tm mem E a w o (.v (.pointer (some ⟨w.heap.size, 0, none⟩))) (some (nx, .oth (.si w.heap.size v 0))) := fun K Q hK => by
  have hbel : Below w.heap.size w (w.alloc (.stringIter v 0)) := (Below.refl _ w).alloc (Nat.le_refl _) _
  have hfr := S.fresh nx hnx
  have hlt : ∀ k blk b, mem k = some blk → blkLoc E k blk = some b → b < w.heap.size := fun k blk b hk hb => (blkLoc_lt blk (S.memv k blk hk) b hb).2
  have hw0 : G.w0.heap.size ≤ w.heap.size := S.ext.size
  have step := S.step nx (.oth (.si w.heap.size v 0)) E (w.alloc (.stringIter v 0)) (Env.le.refl E) (fun b hb => hbel.block b (S.fz b hb).1) (keeps_grow hbel) (S.ext.trans (hbel.mono hw0))
    (fun b hb => ⟨Nat.lt_of_lt_of_le (S.fz b hb).1 hbel.size, (S.fz b hb).2⟩) (fun k _ => ⟨rfl, fun _ => rfl⟩)
    (fun k blk b hk hkm hb => ⟨hbel.block b (hlt k blk b hkm hb), S.nF k blk b hkm hb⟩)
    ⟨hw0, World.alloc_heap_new w _⟩
    (fun b hb => by
      cases hb
      exact ⟨fun hF => absurd (S.fz _ hF).1 (by omega), fun k blk _ hkm hb' => absurd (hlt k blk _ hkm hb') (by omega)⟩)
    (fun l' s' hh => by cases hh) (fun s' e n α d f l' hh => by cases hh) (fun y hy => hfr)
  refine exec_val (v := .pointer (some ⟨w.heap.size, 0, none⟩)) (w' := w.alloc (.stringIter v 0)) (by simp [ho]) ?_ (hK E _ _ (Env.le.refl E) step (by simp only [sat]))
  simp [execOp, ho, hx, Instr.range, run_underlying hT]
theorem ok1_nx (S : Sat G tm mem E a w) {j b p : Nat} {v : ByteArray} {x : Operand} (hj : mem j = some (.oth (.si b v p))) (ho : o.op = .next x true) (hx : a.eval x = .pointer (some ⟨b, 0, none⟩)) :
    Ok1 P r nf G tm mem E a w o (outN v p) (some (j, .oth (.si b v (advN v p)))) := fun K Q hK => by
  obtain ⟨h1, h2⟩ := S.memv j _ hj
  have hg : (getObj b).run P w = .ok (.stringIter v p) w := by simp [getObj, Sem.run, h2]
  by_cases hp : p < v.size
  · have hs : ∀ ob, (setObj b ob).run P w = .ok () (w.putObj b ob) := fun ob => by simp [setObj, Sem.run, h2, World.putObj]
    refine exec_val (v := .tuple #[.bool true, goInt p, .int .i32 (Utf8.decode v p).1]) (w' := w.putObj b (.stringIter v (p + (Utf8.decode v p).2))) (by simp [ho]) ?_ (hK E _ _ (Env.le.refl E) ?_ ?_)
    · simp [execOp, ho, hx, Instr.next, hg, hp, hs]
    · have := S.setI hj (p + (Utf8.decode v p).2)
      rwa [show advN v p = p + (Utf8.decode v p).2 by unfold advN; rw [if_pos hp]]
    · have := outN_sat (E := E) (w := w.putObj b (.stringIter v (p + (Utf8.decode v p).2))) v p
      rwa [if_pos hp] at this
  · refine exec_val (v := .tuple #[.bool false]) (w' := w) (by simp [ho]) ?_ (hK E _ _ (Env.le.refl E) ?_ ?_)
    · simp [execOp, ho, hx, Instr.next, hg, hp]
    · rw [show advN v p = p by unfold advN; rw [if_neg hp]]
      have e : upd mem j (some (Blk.oth (.si b v p))) = mem := by
        funext k
        simp only [upd]
        split
        · rename_i e; rw [e, hj]
        · rfl
      show Sat G tm (upd mem j (some (Blk.oth (.si b v p)))) E a w
      rw [e]; exact S
    · have := outN_sat (E := E) (w := w) v p
      rwa [if_neg hp] at this
end
section
variable {P : Program} {r : Option Nat} {nf : Nat} {G : Gl} {tm : Nat → AV} {mem : Nat → Option Blk} {E : Env} {a : Act} {w : World} {o : Oper}
theorem ok1_isn (S : Sat G tm mem E a w) {neg : Bool} {t t' el n : Nat} {x : Operand} {α : Type} {d : α} {f : α → List AV} {l : List α} (ht : P.underlying t = some (.slice el))
    (ho : o.op = .binOp (if neg then .neq else .eql) t x (.const (.slice none 0 0)) t') (hx : sat E w (.sl n d f l) (a.eval x)) : ∃ b : Bool, (0 < l.length → b = neg) ∧ Ok1 P r nf G tm mem E a w o (.v (.bool b)) none := by
  have hd : ∀ c, o.op ≠ .defer c := by simp [ho]
  have hy : a.eval (.const (.slice none 0 0)) = .slice none 0 0 := rfl
  simp only [sat, fsat] at hx
  obtain ⟨ad, cap, h1, _, _, h2⟩ := hx
  cases ad with
  | none =>
    have hl : l = [] := by
      rcases h2 with h2 | ⟨b, q, h3, _⟩
      · exact h2
      · cases h3
    have he : ∀ (d : Nat), (Op.equalIn (d + 1) t (.slice none l.length cap) (.slice none 0 0)).run P w = .ok true w := fun d => by
      simp only [Op.equalIn, Sem.run_bind, run_underlying ht, Result.andThen_ok]; rfl
    have he' : (Op.equal t (.slice none l.length cap) (.slice none 0 0)).run P w = .ok true w := he 9999
    refine ⟨!neg, fun h => by rw [hl] at h; simp at h, ok1_pure S hd (v := .bool (!neg)) ?_ rfl⟩
    cases neg
    · simp only [Bool.false_eq_true, if_false] at ho
      simp [execOp, ho, h1, hy, eqGuard, Go.binOp, Sem.run_bind, he']
    · simp only [if_true] at ho
      simp [execOp, ho, h1, hy, eqGuard, Go.binOp, Sem.run_bind, he']
  | some ad =>
    have he : ∀ (d : Nat), (Op.equalIn (d + 1) t (.slice (some ad) l.length cap) (.slice none 0 0)).run P w = .ok false w := fun d => by
      simp only [Op.equalIn, Sem.run_bind, run_underlying ht, Result.andThen_ok]; rfl
    have he' : (Op.equal t (.slice (some ad) l.length cap) (.slice none 0 0)).run P w = .ok false w := he 9999
    refine ⟨neg, fun _ => rfl, ok1_pure S hd (v := .bool neg) ?_ rfl⟩
    cases neg
    · simp only [Bool.false_eq_true, if_false] at ho
      simp [execOp, ho, h1, hy, eqGuard, Go.binOp, Sem.run_bind, he']
    · simp only [if_true] at ho
      simp [execOp, ho, h1, hy, eqGuard, Go.binOp, Sem.run_bind, he']
end
def SpM (P : Program) (ro : RO) (s : S) (K : S → Prop) : Prop :=
  ∃ p, pathOf s.tm ro.gp = some p ∧ underAll p s.tm ro.op.uops ∧ match ro.op with
    | .mkm T kd => p = [] ∧ ∀ b, K (s.app ro.dst [] (.v (.map (some b))) (some (s.nx, .oth (.mp b kd fun _ => none))))
    | .mup T kd m k x => p = [] ∧ ∃ j b g kv xv, strip (ev s.tm m) = .v (.map (some b)) ∧ lm s.mem j = some (.oth (.mp b kd g)) ∧ keyV (strip (ev s.tm k)) = some kv ∧ okK kd kv ∧ strip (ev s.tm x) = .v xv ∧
        K (s.app ro.dst [] (.v undef) (some (j, .oth (.mp b kd (updG g kv xv)))))
    | .mlk T kd z m k ok => ∃ j b g kv, strip (ev s.tm m) = .v (.map (some b)) ∧ lm s.mem j = some (.oth (.mp b kd g)) ∧ keyV (strip (ev s.tm k)) = some kv ∧ (pc p → okK kd kv) ∧ K (s.app ro.dst p (outM ok z g kv) none)
    | .rgs x => p = [] ∧ ∃ v, strip (ev s.tm x) = .v (.string v) ∧ ∀ b, K (s.app ro.dst [] (.v (.pointer (some ⟨b, 0, none⟩))) (some (s.nx, .oth (.si b v 0))))
    | .nxs x => p = [] ∧ ∃ j b v q, strip (ev s.tm x) = .v (.pointer (some ⟨b, 0, none⟩)) ∧ lm s.mem j = some (.oth (.si b v q)) ∧ K (s.app ro.dst [] (outN v q) (some (j, .oth (.si b v (advN v q)))))
    | .isn neg x => ∃ (n : Nat) (α : Type) (d : α) (f : α → List AV) (l : List α), strip (ev s.tm x) = .sl n d f l ∧ ∀ b : Bool, (0 < l.length → b = neg) → K (s.app ro.dst p (.v (.bool b)) none)
    | .mln x => ∃ (j b kd : Nat) (g : Value → Option Value) (ks : List Value), strip (ev s.tm x) = .v (.map (some b)) ∧ lm s.mem j = some (.oth (.mp b kd g)) ∧ ks.Nodup ∧ (∀ k, g k ≠ none ↔ k ∈ ks) ∧ K (s.app ro.dst p (.v (.int .i64 ks.length)) none)
    | _ => False
section
variable {P : Program} {r : Option Nat} {nf N : Nat} {fz : List Nat} {G : Gl} {ops : Array Oper} {rl : List RO} {E : Env} {a : Act} {w : World} {o : Oper}
theorem trR_mkm {f : Bool} {op : Op} {T kd : Nat} (h : trR P f op = some (.mkm T kd)) : op = .makeMap T none := by
  unfold trR at h
  simp only [Option.some.injEq] at h
  split at h
  · rename_i r1 h1
    subst h
    unfold trR0 at h1
    repeat' (first | (split at h1) | (simp only [Option.some.injEq, reduceCtorEq, R.mkm.injEq] at h1; done))
    all_goals first
      | (simp only [Option.some.injEq, reduceCtorEq] at h1; done)
      | (simp only [Option.some.injEq, R.mkm.injEq] at h1; obtain ⟨rfl, _⟩ := h1; rfl)
  · cases h
theorem trR_mup {f : Bool} {op : Op} {T kd : Nat} {m k x : Operand} (h : trR P f op = some (.mup T kd m k x)) : ∃ z, mapB P T = some (kd, z) ∧ (op = .mapUpdate T m k x ∨ op = .insert T m k x) := by
  unfold trR at h
  simp only [Option.some.injEq] at h
  split at h
  · rename_i r1 h1
    subst h
    unfold trR0 at h1
    repeat' (first | (split at h1) | (simp only [Option.some.injEq, reduceCtorEq, R.mup.injEq] at h1; done))
    all_goals first
      | (simp only [Option.some.injEq, reduceCtorEq] at h1; done)
      | (simp only [Option.some.injEq, R.mup.injEq] at h1; obtain ⟨rfl, rfl, rfl, rfl, rfl⟩ := h1; first | exact ⟨_, by assumption, .inl rfl⟩ | exact ⟨_, by assumption, .inr rfl⟩)
  · cases h
theorem trR_mlk {f : Bool} {op : Op} {T kd : Nat} {z : Value} {m k : Operand} {ok : Bool} (h : trR P f op = some (.mlk T kd z m k ok)) : mapB P T = some (kd, z) ∧ op = .lookup T m k ok := by
  unfold trR at h
  simp only [Option.some.injEq] at h
  split at h
  · rename_i r1 h1
    subst h
    unfold trR0 at h1
    repeat' (first | (split at h1) | (simp only [Option.some.injEq, reduceCtorEq, R.mlk.injEq] at h1; done))
    all_goals first
      | (simp only [Option.some.injEq, reduceCtorEq] at h1; done)
      | (simp only [Option.some.injEq, R.mlk.injEq] at h1; obtain ⟨rfl, rfl, rfl, rfl, rfl, rfl⟩ := h1; exact ⟨by assumption, rfl⟩)
  · cases h
theorem trR_mln {f : Bool} {op : Op} {x : Operand} (h : trR P f op = some (.mln x)) : ∃ T kt et, P.underlying T = some (.map kt et) ∧ op = .call { callee := .builtin .len, args := #[x], argTypes := #[T] } := by
  unfold trR at h
  simp only [Option.some.injEq] at h
  split at h
  · rename_i r1 h1
    subst h
    unfold trR0 at h1
    repeat' (first | (split at h1) | (simp only [Option.some.injEq, reduceCtorEq, R.mln.injEq] at h1; done))
    all_goals first
      | (simp only [Option.some.injEq, reduceCtorEq] at h1; done)
      | (simp only [Option.some.injEq, R.mln.injEq] at h1; obtain rfl := h1; exact ⟨_, _, _, by assumption, rfl⟩)
  · cases h
theorem trR_rgs {f : Bool} {op : Op} {x : Operand} (h : trR P f op = some (.rgs x)) : ∃ T, P.underlying T = some .string ∧ op = .range T x := by
  unfold trR at h
  simp only [Option.some.injEq] at h
  split at h
  · rename_i r1 h1
    subst h
    unfold trR0 at h1
    repeat' (first | (split at h1) | (simp only [Option.some.injEq, reduceCtorEq, R.rgs.injEq] at h1; done))
    all_goals first
      | (simp only [Option.some.injEq, reduceCtorEq] at h1; done)
      | (simp only [Option.some.injEq, R.rgs.injEq] at h1; obtain rfl := h1; exact ⟨_, by assumption, rfl⟩)
  · cases h
theorem trR_nxs {f : Bool} {op : Op} {x : Operand} (h : trR P f op = some (.nxs x)) : op = .next x true := by
  unfold trR at h
  simp only [Option.some.injEq] at h
  split at h
  · rename_i r1 h1
    subst h
    unfold trR0 at h1
    repeat' (first | (split at h1) | (simp only [Option.some.injEq, reduceCtorEq, R.nxs.injEq] at h1; done))
    all_goals first
      | (simp only [Option.some.injEq, reduceCtorEq] at h1; done)
      | (simp only [Option.some.injEq, R.nxs.injEq] at h1; obtain rfl := h1; rfl)
  · cases h
theorem trR_isn {f : Bool} {op : Op} {neg : Bool} {x : Operand} (h : trR P f op = some (.isn neg x)) : ∃ t el t', P.underlying t = some (.slice el) ∧ op = .binOp (if neg then .neq else .eql) t x (.const (.slice none 0 0)) t' := by
  unfold trR at h
  simp only [Option.some.injEq] at h
  split at h
  · rename_i r1 h1
    subst h
    unfold trR0 at h1
    repeat' (first | (split at h1) | (simp only [Option.some.injEq, reduceCtorEq, R.isn.injEq] at h1; done))
    all_goals first
      | (simp only [Option.some.injEq, reduceCtorEq] at h1; done)
      | (simp only [Option.some.injEq, R.isn.injEq] at h1; obtain ⟨rfl, rfl⟩ := h1; exact ⟨_, _, _, by assumption, rfl⟩)
  · cases h
theorem there_of {s : S} (h : ∀ k, s.nx ≤ k → lm s.mem k = none) {j : Nat} {b : Blk} (hj : lm s.mem j = some b) : there s j := by
  refine ⟨?_, (hasM_iff _ _).2 (by rw [hj]; simp)⟩
  rcases Nat.lt_or_ge j s.nx with q | q
  · exact q
  · rw [h j q] at hj; cases hj
theorem under_strip {x : AV} {y : Value} {p : Path} (hu : under p x) (hp : pc p) (hs : sat E w x y) : sat E w (strip x) y := by
  cases x with
  | gd q a =>
    simp only [under] at hu
    simp only [sat] at hs
    exact hs.1 (pc_covers hp hu)
  | _ => exact hs
theorem spm_step (hG : G.N = N) {ro : RO} {s : S} {K : S → Prop} (h2 : TrO P N fz ops o ro) (hS : SatS G s E a w) (hsp : SpM P ro s K) (Kc : Act → World → Prop) (Q : Exit → Act → World → Prop) (hK : ∀ s' E' a' w', K s' → SatS G s' E' a' w' → Kc a' w') :
    if Region.wanted o (yielded ops a.tmps) then o.wpIn (W1 r) nf P a w Kc Q else (∀ f, o.about P w a.eval = some f → (W1 r).fn f) ∧ Kc (a.put o.dst undef) w := by
  obtain ⟨p, hp, hu, hx⟩ := hsp
  have hslots : ∀ x, sat E w (ev s.tm x) (a.eval x) := fun x => ev_sat hS.st x (fun t _ => rfl)
  obtain ⟨f0, hop⟩ := h2.op
  have fin : ∀ (out : AV) (u : Option (Nat × Blk)), okU p s u → (pc p → Ok1 P r nf G (lk s.tm) (lm s.mem) E a w o out u) → K (s.app ro.dst p out u) → (if Region.wanted o (yielded ops a.tmps) then o.wpIn (W1 r) nf P a w Kc Q else (∀ f, o.about P w a.eval = some f → (W1 r).fn f) ∧ Kc (a.put o.dst undef) w) := fun out u hok h1 hk => by
    have hG1 : GOk P r nf G (lk s.tm) (lm s.mem) E a w ops o (gdd p out) u := gok_of hS.st h2.gd (by rw [← pathOf_eq]; exact hp) (fun g b hg => hslots _) hok h1
    refine hG1 Kc Q (fun E' w' v h3 h4 h5 => ?_)
    have hS' := satS_app (dst := o.dst) (p := p) hS.nx h4 h5 hok (fun d hd => by rw [hG]; exact h2.lt d hd)
    rw [h2.dst] at hk
    exact hK _ E' _ w' hk hS'
  cases hro : ro.op <;> rw [hro] at hx hop hu <;> (try exact hx.elim)
  · rename_i neg x
    obtain ⟨n, α, d, f, l, e1, hk⟩ := hx
    obtain ⟨t, el, t', q1, q2⟩ := trR_isn hop
    simp only [R.uops, R.opds, underAll, and_true] at hu
    by_cases hpc : pc p
    · have s1 := under_strip hu hpc (hslots x)
      rw [e1] at s1
      obtain ⟨b, hb, h3⟩ := ok1_isn (r := r) (nf := nf) hS.st q1 q2 s1
      exact fin (.v (.bool b)) none trivial (fun _ => h3) (hk b hb)
    · exact fin (.v (.bool neg)) none trivial (fun h => absurd h hpc) (hk neg (fun _ => rfl))
  · rename_i T kd
    obtain ⟨rfl, hk⟩ := hx
    exact fin (.v (.map (some w.heap.size))) (some (s.nx, .oth (.mp w.heap.size kd fun _ => none))) ⟨rfl, .inl rfl⟩ (fun _ => ok1_mk hS.st (hS.nx _ (Nat.le_refl _)) (trR_mkm hop)) (hk w.heap.size)
  · rename_i T kd m k x
    obtain ⟨rfl, j, b, g, kv, xv, e1, e2, e3, e4, e5, hk⟩ := hx
    obtain ⟨z, q1, q2⟩ := trR_mup hop
    simp only [R.uops, R.opds, underAll, and_true] at hu
    have s1 := under_strip hu.1 (trivial : pc []) (hslots m)
    have s2 := under_strip hu.2.1 (trivial : pc []) (hslots k)
    have s3 := under_strip hu.2.2 (trivial : pc []) (hslots x)
    rw [e1] at s1
    rw [e5] at s3
    simp only [sat] at s1 s3
    exact fin (.v undef) (some (j, .oth (.mp b kd (updG g kv xv)))) ⟨rfl, .inr (there_of hS.nx e2)⟩ (fun _ => ok1_up hS.st e2 q1 q2 s1 (keyV_sat e3 s2) e4 s3) hk
  · rename_i T kd z m k ok
    obtain ⟨j, b, g, kv, e1, e2, e3, e4, hk⟩ := hx
    obtain ⟨q1, q2⟩ := trR_mlk hop
    simp only [R.uops, R.opds, underAll, and_true] at hu
    refine fin (outM ok z g kv) none trivial (fun hpc => ?_) hk
    have s1 := under_strip hu.1 hpc (hslots m)
    have s2 := under_strip hu.2 hpc (hslots k)
    rw [e1] at s1
    simp only [sat] at s1
    exact ok1_lk hS.st e2 q1 q2 s1 (keyV_sat e3 s2) (e4 hpc)
  · rename_i x
    obtain ⟨rfl, v, e1, hk⟩ := hx
    obtain ⟨T, q1, q2⟩ := trR_rgs hop
    simp only [R.uops, R.opds, underAll, and_true] at hu
    have s1 := under_strip hu (trivial : pc []) (hslots x)
    rw [e1] at s1
    simp only [sat] at s1
    exact fin (.v (.pointer (some ⟨w.heap.size, 0, none⟩))) (some (s.nx, .oth (.si w.heap.size v 0))) ⟨rfl, .inl rfl⟩ (fun _ => ok1_rg hS.st (hS.nx _ (Nat.le_refl _)) q1 q2 s1) (hk w.heap.size)
  · rename_i x
    obtain ⟨rfl, j, b, v, q, e1, e2, hk⟩ := hx
    have q2 := trR_nxs hop
    simp only [R.uops, R.opds, underAll, and_true] at hu
    have s1 := under_strip hu (trivial : pc []) (hslots x)
    rw [e1] at s1
    simp only [sat] at s1
    exact fin (outN v q) (some (j, .oth (.si b v (advN v q)))) ⟨rfl, .inr (there_of hS.nx e2)⟩ (fun _ => ok1_nx hS.st e2 q2 s1) hk
  · rename_i x
    obtain ⟨j, b, kd, g, ks, e1, e2, e3, e4, hk⟩ := hx
    obtain ⟨T, kt, et, q1, q2⟩ := trR_mln hop
    simp only [R.uops, R.opds, underAll, and_true] at hu
    refine fin (.v (.int .i64 ks.length)) none trivial (fun hpc => ?_) hk
    have s1 := under_strip hu hpc (hslots x)
    rw [e1] at s1
    simp only [sat] at s1
    exact ok1_ln hS.st e2 q1 q2 s1 e3 e4
def chainX (P : Program) : List Nat → List RO → S → (S → Prop) → Prop
  | [], rl, s, K => chain P none rl s K
  | n :: ns, rl, s, K => chain P none (rl.take n) s (fun s1 => match rl.drop n with
    | [] => False
    | ro :: rest => SpM P ro s1 (fun s2 => chainX P ns rest s2 K))
theorem inorderX (hG : G.N = N) (hrl : trL P N fz ops ops.toList = some rl) {Q : Exit → Act → World → Prop} {K : S → Prop} (hK : ∀ s E a w, K s → SatS G s E a w → Q .normal a w) :
    ∀ (ns : List Nat) (i m : Nat) (s : S) (E : Env) (a : Act) (w : World), i + m = ops.size → chainX P ns (rl.drop i) s K → SatS G s E a w → wpOpsIn (W1 r) nf P ops Q (List.range' i m) a w
  | [], i, m, s, E, a, w, hi, hc, hS => inorder hG hrl hK m i s E a w hi hc hS
  | n :: ns, i, m, s, E, a, w, hi, hc, hS => by
    obtain ⟨hl, hsp⟩ := trL_spec hrl
    have hlen : rl.length = ops.size := by rw [hl, Array.length_toList]
    simp only [chainX] at hc
    rcases Nat.lt_or_ge n m with hn | hn
    rotate_left
    · -- there is none left
      have hd : (rl.drop i).drop n = [] := List.drop_eq_nil_of_le (by rw [List.length_drop]; omega)
      rw [hd] at hc
      have h1 := inorder_part (r := r) (nf := nf) (Q := Q) (m := 0) (e := i + m) hG hrl (K := fun _ => False) (fun s1 E1 a1 w1 hk hS1 => hk.elim) m i s E a w rfl (by omega) (by
        rw [List.take_of_length_le (by rw [List.length_drop]; omega)] at hc
        rwa [List.take_of_length_le (by rw [List.length_drop]; omega)]) hS
      rwa [Nat.add_zero] at h1
    · have h1 := inorder_part (r := r) (nf := nf) (Q := Q) (m := m - n) (e := i + n) hG hrl (K := fun s1 => match (rl.drop i).drop n with
        | [] => False
        | ro :: rest => SpM P ro s1 (fun s2 => chainX P ns rest s2 K)) (fun s1 E1 a1 w1 hk hS1 => by
          have hil : i + n < ops.size := by omega
          obtain ⟨ro, g1, g2⟩ := hsp (i + n) ops[i + n] (by simp [hil])
          have hdrop : (rl.drop i).drop n = ro :: rl.drop (i + n + 1) := by
            rw [List.drop_drop]
            have hlt : i + n < rl.length := by omega
            rw [List.drop_eq_getElem_cons hlt]
            congr 1
            rw [List.getElem?_eq_getElem hlt] at g1
            simpa using g1
          rw [hdrop] at hk
          simp only [] at hk
          rw [show m - n = (m - n - 1) + 1 by omega, List.range'_succ, wpOpsIn_cons]
          unfold wpOpIn
          simp only [Array.getElem?_eq_getElem hil]
          exact spm_step hG g2 hS1 hk _ Q (fun s' E' a' w' hc' hS' => inorderX hG hrl hK ns (i + n + 1) (m - n - 1) s' E' a' w' (by omega) hc' hS')) n i s E a w rfl (by omega) hc hS
      rwa [show n + (m - n) = m by omega] at h1
end
section
variable {P : Program} {N : Nat} {s : S} {Q : Ex → S → Prop}
theorem W_regX {rl : List RO} {ks : List Nat} (ns : List Nat) (h : chainX P ns rl s (fun s' => Q .n (s'.keep ks))) : W P N (regL ks none rl) s Q := by
  intro hm code fz ht r nf G E x w hG hS
  obtain ⟨id, ops, d, rfl, hrl, hd⟩ := trC_reg ht
  rcases hd with ⟨rfl, hx⟩ | ⟨rfl, hx, hE, hO⟩
  · refine wpIn_region ?_
    rw [List.range_eq_range']
    exact inorderX hG.1 hrl (K := fun s' => Q .n (s'.keep ks)) (fun s E a w hk hS => ⟨_, E, hk, keep_sat ks hS⟩) ns 0 ops.size s E x w (by omega) (by rw [List.drop_zero]; exact h) hS
  · cases hx
end
set_option maxHeartbeats 1000000
section
variable {P : Program} {r : Option Nat} {nf N : Nat} {fz : List Nat} {G : Gl} {ops : Array Oper} {rl : List RO} {ms : List Nat} {s : S} {st : Nat → S} {pp : Nat → Path} {out : Nat → AV} {u : Nat → Option (Nat × Blk)}
end
section
variable {P : Program} {N : Nat} {s : S} {Q : Ex → S → Prop}
end
def FinO (rv : List RV) (T n : Nat) {α : Type} (d : α) (F : α → List AV) (l : List α) : Ex → S → Prop
  | .e _, _ => False
  | _, s => ∃ k st, resOK s rv [.row k st] ∧ lm s.mem k = some (.row st T n d F l)
theorem rowSat_pure {A B : Nat → Prop} {w : World} {n : Nat} {α : Type} {F : α → List AV} {l : List α} {xs : List Value} (hp : ∀ x ∈ l, pureAll (F x) = true) (h : rowSat A w n F l xs) : rowSat B w n F l xs := fun i x hx => by
  obtain ⟨h1, h2⟩ := h i x hx
  exact ⟨h1, fsatL_pure _ _ (hp x (List.mem_iff_getElem?.2 ⟨i, hx⟩)) h2⟩
theorem ownsRow_base {w : World} {B B' e n : Nat} {v : Value} {m : Nat} {xs : List Value} (h : w.ownsRow B e n v m xs) (hb : B' ≤ B) : w.ownsRow B' e n v m xs := by
  obtain ⟨h1, h2⟩ := h
  refine ⟨h1, ?_⟩
  rcases h2 with h2 | ⟨g, cap, cur, q1, q2, q3⟩
  · exact .inl h2
  · exact .inr ⟨g, cap, cur, q1, Nat.le_trans hb q2, q3⟩
theorem FnO_of_W {P : Program} {f : Nat} {c : C} {N np : Nat} {rv : List RV} (hm : P.follows .mixedOrders = true) (ht : Text P f c N np rv) {args : List AV} (hn : args.length = np) {T n : Nat} {α : Type} {d : α} {F : α → List AV} {l : List α}
    (hp : ∀ x ∈ l, pureAll (F x) = true) (h : W P N c (init args) (FinO rv T n d F l)) : FnO P f args T n d F l := by
  refine ⟨?_, hp, fun A w vs hA hargs => ?_⟩
  · obtain ⟨fn, fz, h1, h26, h3, h4, h5⟩ := ht.ex
    cases hb : fn.body with
    | none => rw [hb] at h26; cases h26
    | some code => simp [hasBody, h1, hb, h3]
  have hlen := (fsatT_get hargs).1
  have hq : ∀ e s, FinO rv T n d F l e s → (e = .n ∨ e = .r) ∧ ∃ k st, resOK s rv [.row k st] ∧ lm s.mem k = some (.row st T n d F l) := fun e s q => by
    cases e with
    | e id => exact q.elim
    | n => exact ⟨.inl rfl, q⟩
    | r => exact ⟨.inr rfl, q⟩
  refine calls_of_W hm ht h (fun e s q => ⟨(hq e s q).1, by obtain ⟨_, k, st, h1, _⟩ := hq e s q; exact ⟨_, h1⟩⟩) (by omega) (G := ⟨A, w, N, none, w, A⟩) (E := ⟨fun _ => none, fun _ _ => none, A⟩) rfl rfl (fun a hz hv hd => start_sat hA hargs a hz hv hd) _ ?_
  intro e s E' a' w' xs us hQ hr hS h8
  obtain ⟨_, k, st, h1, h2⟩ := hq e s hQ
  obtain rfl := resOK_det hr h1
  simp only [satT, sat] at h8
  obtain ⟨y, ys, rfl, ⟨hd, h3, rfl⟩, rfl⟩ := h8
  obtain ⟨v, zs, h4, h5, h6, h7⟩ := hS.st.memv k _ h2
  rw [h3] at h4
  cases h4
  exact ⟨hd, zs, by simp [valOf], hS.st.ext, h5, h6, rowSat_pure hp h7⟩
theorem Inl_of_FnO {P : Program} {f : Nat} {args raw : List AV} {T n : Nat} {α : Type} {d : α} {F : α → List AV} {l : List α} (hF : FnO P f args T n d F l) {s : S} (ha : raw.map (view (lm s.mem) 4) = args) {K : AV → S → Prop}
    (hK : K (.row s.nx 0) ⟨s.tm, (s.nx, .row 0 T n d F l) :: s.mem, s.nx + 1⟩) : Inl P f raw s K := by
  refine ⟨hF.1, fun G E a w vs hS hT => ?_⟩
  have hvv := viewT_sat hS.st 4 raw vs hT
  rw [ha] at hvv
  refine (hF.2.2 (allF w) w vs (fun b hb => hb) hvv).mono ?_
  rintro e w' ⟨h, xs, rfl, hb, ho, hn, hr⟩
  have hfr := hS.st.fresh s.nx (hS.nx _ (Nat.le_refl _))
  let E' : Env := ⟨E.b, fun k s' => if k = s.nx ∧ s' = 0 then some h else E.h k s', E.F⟩
  have hE : E.le E' := ⟨fun _ _ h => h, fun k s' x hx => by
    by_cases hk : k = s.nx ∧ s' = 0
    · rw [hk.1, hfr.2] at hx; cases hx
    · show (if k = s.nx ∧ s' = 0 then some h else E.h k s') = some x
      rw [if_neg hk]; exact hx, fun _ h => h⟩
  have hloc : ∀ b, blkLoc E' s.nx (.row 0 T n d F l) = some b → w.heap.size ≤ b := fun b hb' => by
    have : (some h).bind (fun h => (hv h).ownBlock) = some b := by
      have e0 : E'.h s.nx 0 = some h := by show (if s.nx = s.nx ∧ 0 = 0 then some h else _) = _; rw [if_pos ⟨rfl, rfl⟩]
      rw [← e0]; exact hb'
    exact (ho.lt b this).1
  refine ⟨_, .row s.nx 0, _, E', rfl, hK, ⟨?_, fun j hj => ?_⟩, ?_⟩
  · have key := hS.st.step s.nx (.row 0 T n d F l) E' w' hE (fun b hb' => hb.block b (hS.st.fz b hb').1) (keeps_grow hb) (hS.st.ext.trans (hb.mono hS.st.ext.size))
      (fun b hb' => ⟨Nat.lt_of_lt_of_le (hS.st.fz b hb').1 hb.size, (hS.st.fz b hb').2⟩)
      (fun k hk => ⟨rfl, fun s' => by show (if k = s.nx ∧ s' = 0 then some h else E.h k s') = _; rw [if_neg (fun q => hk q.1)]⟩)
      (fun k blk b hk hm hl => ⟨hb.block b (blkLoc_lt blk (hS.st.memv k blk hm) b hl).2, hS.st.nF k blk b hm hl⟩)
      ⟨h, xs, by show (if s.nx = s.nx ∧ 0 = 0 then some h else _) = _; rw [if_pos ⟨rfl, rfl⟩], ownsRow_base ho hS.st.ext.size, hn, rowSat_pure hF.2.1 hr⟩
      (fun b hb' => ⟨fun hf => by have := hloc b hb'; have := (hS.st.fz b hf).1; omega, fun k blk hk hm hl => by have := hloc b hb'; have := (blkLoc_lt blk (hS.st.memv k blk hm) b hl).2; omega⟩)
      (fun l s' q => by cases q)
      (fun s' e n' α' d' f' l' q => by
        cases q
        refine ⟨hfr.1, fun s2 hs => ?_⟩
        show (if s.nx = s.nx ∧ s2 = 0 then some h else E.h s.nx s2) = none
        rw [if_neg (by omega)]; exact hfr.2 s2)
    have e1 : lm ((s.nx, Blk.row 0 T n d F l) :: s.mem) = upd (lm s.mem) s.nx (some (.row 0 T n d F l)) := by
      funext j; simp only [lm, upd]
    show Sat G (lk s.tm) (lm ((s.nx, Blk.row 0 T n d F l) :: s.mem)) E' a w'
    rw [e1]
    exact key
  · show lm ((s.nx, Blk.row 0 T n d F l) :: s.mem) j = none
    have hj' : s.nx + 1 ≤ j := hj
    simp only [lm]
    rw [if_neg (by omega)]
    exact hS.nx j (by omega)
  · simp only [sat]
    exact ⟨h, by show (if s.nx = s.nx ∧ 0 = 0 then some h else _) = _; rw [if_pos ⟨rfl, rfl⟩], rfl⟩
theorem fin_of_finO {rv : List RV} {T n : Nat} {α : Type} {d : α} {F : α → List AV} {l : List α} : ∀ e s, FinO rv T n d F l e s → Fin rv (.sl n d F l) e s := fun e s q => by
  have key : ∀ k st, lm s.mem k = some (.row st T n d F l) → pack ([AV.row k st].map (view (lm s.mem) 4)) = .sl n d F l := fun k st h => by
    simp only [List.map_cons, List.map_nil, view, h, if_true, pack]
  cases e with
  | e id => exact q.elim
  | n => obtain ⟨k, st, h1, h2⟩ := q; exact ⟨_, h1, key k st h2⟩
  | r => obtain ⟨k, st, h1, h2⟩ := q; exact ⟨_, h1, key k st h2⟩
def SR.setB : SR → Bool
  | .ok _ _ _ => true
  | .bls _ _ _ _ _ => true
  | .mks _ _ _ _ _ _ => true
  | .app _ _ _ _ _ _ _ _ _ _ _ => true
  | .app0 _ _ _ _ _ _ => true
  | .str _ _ _ _ _ _ _ _ _ _ _ => true
  | _ => false
section
variable {P : Program} {r : Option Nat} {nf N : Nat} {fz : List Nat} {G : Gl} {tm : Nat → AV} {mem : Nat → Option Blk} {ops : Array Oper} {rl : List RO} {E : Env} {a : Act} {w : World} {o : Oper}
end
section
variable {P : Program} {N : Nat} {s : S} {Q : Ex → S → Prop}
end
theorem le_moveC {s : S} (t K K2 : Nat) (ks bs : List Nat) (nx : Nat) (l : List AV) (ht : lk s.tm t = .own K2 0) (hm : lm s.mem K2 = some (.cells l)) (hl : frzAll l = true) (hK : has bs K = false) (hK2 : has bs K2 = false)
    (h1 : okTm bs (ks.map fun t => (t, lk s.tm t)) = true) (h2 : okMem bs s.mem = true) (hn : allLt nx bs = true) (hKn : K < nx) :
    le s ⟨(t, .own K 0) :: ks.map (fun t => (t, lk s.tm t)), (K, .cells l) :: keepM bs s.mem, nx⟩ := by
  intro G E a w hS
  let E' : Env := ⟨fun k => if k = K then E.b K2 else if has bs k then E.b k else none, fun k s' => if has bs k then E.h k s' else none, E.F⟩
  have hne : ∀ k, has bs k = true → k ≠ K := fun k hk e => by rw [e, hK] at hk; cases hk
  have hb : ∀ k, has bs k = true → E'.b k = E.b k := fun k hk => by simp [E', hk, hne k hk]
  have hh : ∀ k, has bs k = true → ∀ s, E'.h k s = E.h k s := fun k hk s => by simp [E', hk]
  have hle : (E.res bs).le E' := {
    b := fun k x hx => by
      simp only [Env.res] at hx
      split at hx
      · rename_i hk; rw [hb k hk]; exact hx
      · cases hx
    h := fun k s x hx => by
      simp only [Env.res] at hx
      split at hx
      · rename_i hk; rw [hh k hk]; exact hx
      · cases hx
    F := fun _ h => h }
  have hres : ∀ (a : AV) (y : Value), onlyB bs a = true → sat E w a y → sat E' w a y := fun a y ho hs => sat_mono hle (fun _ _ => rfl) a y (sat_res a y ho hs)
  have hKh : E'.b K = E.b K2 := by simp [E']
  have hlm : ∀ k blk, lm ((K, Blk.cells l) :: keepM bs s.mem) k = some blk → (k = K ∧ blk = .cells l) ∨ (has bs k = true ∧ lm s.mem k = some blk) := fun k blk hk => by
    simp only [lm] at hk
    split at hk
    · rename_i h; cases hk; exact .inl ⟨h, rfl⟩
    · rw [lm_keepM] at hk
      split at hk
      · rename_i h; exact .inr ⟨h, hk⟩
      · cases hk
  have hrow := hS.st.memv K2 _ hm
  have hloc : blkLoc E' K (.cells l) = blkLoc E K2 (.cells l) := by simp only [blkLoc, hKh]
  refine ⟨E', ⟨?_, fun k hk => ?_⟩⟩
  · exact {
      ext := hS.st.ext
      fz := hS.st.fz
      tmv := fun t' => by
        simp only [lk]
        split
        · rename_i h; subst h
          have := hS.st.tmv t'
          rw [ht] at this
          simp only [sat] at this ⊢
          obtain ⟨x, q1, q2⟩ := this
          exact ⟨x, by rw [hKh]; exact q1, q2⟩
        · refine hres _ _ (okTm_spec h1) ?_
          rcases lk_keep ks (lk s.tm) t' with h | h
          · rw [h]; exact hS.st.tmv t'
          · rw [h]; simp only [sat]
      sz := hS.st.sz
      memv := fun k blk hk => by
        rcases hlm k blk hk with ⟨rfl, rfl⟩ | ⟨hk1, hk2⟩
        · obtain ⟨b, cs, T, q1, q2, q3, q4⟩ := hrow
          exact ⟨b, cs, T, by rw [hKh]; exact q1, q2, q3, satL_mono hle (fun _ _ => rfl) _ _ (satL_res _ _ (onlyL_frz1 bs _ hl) q4)⟩
        have hbs := hS.st.memv k blk hk2
        have ho := okMem_spec h2 hk1 hk2
        cases blk with
        | cells l =>
          obtain ⟨b, cs, T, q1, q2, q3, q4⟩ := hbs
          exact ⟨b, cs, T, by rw [hb k hk1]; exact q1, q2, q3, satL_mono hle (fun _ _ => rfl) _ _ (satL_res _ _ (by simpa only [okBlk] using ho) q4)⟩
        | row s' e n d f l =>
          obtain ⟨v, xs, q1, q2, q3, q4⟩ := hbs
          exact ⟨v, xs, by rw [hh k hk1]; exact q1, q2, q3, q4⟩
        | oth x =>
          cases x with
          | fr vs tm => exact fun t => hres _ _ (okTm_spec ho) (hbs t)
          | lp l rec tm => exact ⟨hbs.1, hbs.2.1, fun t => hres _ _ (okTm_spec ho) (hbs.2.2 t)⟩
          | mp b kd g => exact hbs
          | si b s pos => exact hbs
          | nm k' b => exact (hb k' ho).trans hbs
      inj := fun k k' blk blk' b hk hk' hbl hbl' => by
        rcases hlm k blk hk with ⟨rfl, rfl⟩ | ⟨hk1, hk2⟩
        · rcases hlm k' blk' hk' with ⟨rfl, rfl⟩ | ⟨hk1', hk2'⟩
          · rfl
          · exfalso
            rw [hloc] at hbl
            rw [blkLoc_same (hb k' hk1') (hh k' hk1')] at hbl'
            have := hS.st.inj K2 k' _ blk' b hm hk2' hbl hbl'
            rw [← this, hK2] at hk1'; cases hk1'
        · rcases hlm k' blk' hk' with ⟨rfl, rfl⟩ | ⟨hk1', hk2'⟩
          · exfalso
            rw [hloc] at hbl'
            rw [blkLoc_same (hb k hk1) (hh k hk1)] at hbl
            have := hS.st.inj k K2 blk _ b hk2 hm hbl hbl'
            rw [this, hK2] at hk1; cases hk1
          · rw [blkLoc_same (hb k hk1) (hh k hk1)] at hbl
            rw [blkLoc_same (hb k' hk1') (hh k' hk1')] at hbl'
            exact hS.st.inj k k' blk blk' b hk2 hk2' hbl hbl'
      nF := fun k blk b hk hbl => by
        rcases hlm k blk hk with ⟨rfl, rfl⟩ | ⟨hk1, hk2⟩
        · rw [hloc] at hbl
          exact hS.st.nF K2 _ b hm hbl
        · rw [blkLoc_same (hb k hk1) (hh k hk1)] at hbl
          exact hS.st.nF k blk b hk2 hbl
      fresh := fun k hk => by
        have hkK : k ≠ K := fun e => by
          subst e
          simp [lm] at hk
        have hk' : lm (keepM bs s.mem) k = none := by
          have : lm ((K, Blk.cells l) :: keepM bs s.mem) k = none := hk
          simp only [lm] at this
          rwa [if_neg hkK] at this
        by_cases hx : has bs k = true
        · rw [lm_keepM, if_pos hx] at hk'
          obtain ⟨q1, q2⟩ := hS.st.fresh k hk'
          exact ⟨by rw [hb k hx]; exact q1, fun s => by rw [hh k hx]; exact q2 s⟩
        · exact ⟨by simp [E', hx, hkK], fun s => by simp [E', hx]⟩
      stampC := fun k l s' hk => by
        rcases hlm k _ hk with ⟨rfl, h⟩ | ⟨hk1, hk2⟩
        · simp [E', hK]
        · rw [hh k hk1]; exact hS.st.stampC k l s' hk2
      stampR := fun k s' e n' α' d' f' l' hk => by
        rcases hlm k _ hk with ⟨rfl, h⟩ | ⟨hk1, hk2⟩
        · cases h
        · have := hS.st.stampR k s' e n' α' d' f' l' hk2
          exact ⟨by rw [hb k hk1]; exact this.1, fun s'' hs => by rw [hh k hk1]; exact this.2 s'' hs⟩
      stampO := fun k x hk => by
        rcases hlm k _ hk with ⟨_, h⟩ | ⟨hk1, hk2⟩
        · cases h
        · have := hS.st.stampO k x hk2
          exact ⟨by rw [hb k hk1]; exact this.1, fun s'' => by rw [hh k hk1]; exact this.2 s''⟩
      df := hS.st.df
      dn := hS.st.dn
      kd := hS.st.kd
      kF := hS.st.kF
      rd := hS.st.rd }
  · show lm ((K, Blk.cells l) :: keepM bs s.mem) k = none
    have hk' : nx ≤ k := hk
    simp only [lm]
    rw [if_neg (by omega), lm_keepM]
    split
    · rename_i hx
      have := allLt_spec hn hx; omega
    · rfl
theorem lm_end {K : Nat} {b : Blk} : ∀ {M : List (Nat × Blk)}, lm M K = none → ∀ k, lm (M ++ [(K, b)]) k = lm ((K, b) :: M) k
  | [], _, k => rfl
  | (s, a) :: M, h, k => by
    simp only [lm] at h
    split at h
    · cases h
    · rename_i hne
      have ih := lm_end (b := b) h k
      simp only [List.cons_append, lm] at ih ⊢
      rw [ih]
      by_cases q : k = K
      · subst q; simp [hne]
      · simp [q]
theorem le_moveE {s : S} (t K K2 : Nat) (ks bs : List Nat) (nx : Nat) (l : List AV) (ht : lk s.tm t = .own K2 0) (hm : lm s.mem K2 = some (.cells l)) (hl : frzAll l = true) (hK : has bs K = false) (hK2 : has bs K2 = false)
    (h1 : okTm bs (ks.map fun t => (t, lk s.tm t)) = true) (h2 : okMem bs s.mem = true) (hn : allLt nx bs = true) (hKn : K < nx) :
    le s ⟨(t, .own K 0) :: ks.map (fun t => (t, lk s.tm t)), keepM bs s.mem ++ [(K, .cells l)], nx⟩ := by
  have h0 : lm (keepM bs s.mem) K = none := by rw [lm_keepM, if_neg (by rw [hK]; simp)]
  refine (le_moveC t K K2 ks bs nx l ht hm hl hK hK2 h1 h2 hn hKn).trans (leS_same (s := ⟨(t, .own K 0) :: ks.map (fun t => (t, lk s.tm t)), (K, .cells l) :: keepM bs s.mem, nx⟩) (keepM bs s.mem ++ [(K, .cells l)]) nx (fun k => lm_end h0 k) (fun k hk => ?_)).le
  rw [lm_end h0]
  simp only [lm]
  rw [if_neg (by omega), lm_keepM]
  split
  · rename_i hx
    have := allLt_spec hn hx; omega
  · rfl
section
variable {P : Program} {N : Nat} {c : C} {s : S} {Q : Ex → S → Prop}
end
structure Ext (nx : Nat) (R : Mem) (nx2 : Nat) (R2 : Mem) : Prop where
  n : nx ≤ nx2
  eq : ∀ j, j < nx → lm R2 j = lm R j
  hi : ∀ j, nx2 ≤ j → lm R2 j = none
theorem Ext.refl {N0 nx : Nat} {R : Mem} (h : Opq N0 R nx) : Ext nx R nx R := ⟨Nat.le_refl _, fun _ _ => rfl, h.hi⟩
theorem Ext.trans {a b c : Nat} {A B C : Mem} (h : Ext a A b B) (k : Ext b B c C) : Ext a A c C :=
  ⟨Nat.le_trans h.n k.n, fun j hj => (k.eq j (Nat.lt_of_lt_of_le hj h.n)).trans (h.eq j hj), k.hi⟩
theorem Ext.push {a nx b nx2 : Nat} {R R2 : Mem} {g : Blk} (h : Ext a R nx R2) (h1 : nx ≤ b) (h2 : b < nx2) : Ext a R nx2 ((b, g) :: R2) :=
  ⟨by have := h.n; omega, fun j hj => by have := h.n; simp only [lm]; rw [if_neg (by omega)]; exact h.eq j hj, fun j hj => by simp only [lm]; rw [if_neg (by omega)]; exact h.hi j (by omega)⟩
theorem Ext.set {a nx b nx2 : Nat} {R R2 : Mem} {g : Blk} (h : Ext a R nx R2) (h1 : nx ≤ b) (h2 : b < nx2) : Ext a R nx2 (setm R2 b g) :=
  ⟨by have := h.n; omega, fun j hj => by have := h.n; rw [lm_set_other _ _ (by omega)]; exact h.eq j hj, fun j hj => by rw [lm_set_other _ _ (by omega)]; exact h.hi j (by omega)⟩
theorem Ext.up {a nx nx2 : Nat} {R R2 : Mem} (h : Ext a R nx R2) (h1 : nx ≤ nx2) : Ext a R nx2 R2 := ⟨Nat.le_trans h.n h1, h.eq, fun j hj => h.hi j (by omega)⟩
theorem Ext.dn {a a' b : Nat} {A B : Mem} (h : Ext a' A b B) (ha : a ≤ a') : Ext a A b B := ⟨Nat.le_trans ha h.n, fun j hj => h.eq j (Nat.lt_of_lt_of_le hj ha), h.hi⟩
def sameM (m m' : Mem) : Prop := ∀ k, lm m k = lm m' k
theorem sameM.refl (m : Mem) : sameM m m := fun _ => rfl
theorem sameM.trans {a b c : Mem} (h : sameM a b) (k : sameM b c) : sameM a c := fun j => (h j).trans (k j)
theorem sameM.cons {n : Nat} {g : Blk} {a b : Mem} (h : sameM a b) : sameM ((n, g) :: a) ((n, g) :: b) := fun k => by simp only [lm]; rw [h k]
section
variable {P : Program} {N : Nat}
end
section
variable {P : Program} {r : Option Nat} {nf N : Nat} {fz : List Nat} {G : Gl} {ops : Array Oper} {rl : List RO} {ms : List Nat}
theorem reg_invJ (hG : G.N = N) (hrl : trL P N fz ops ops.toList = some rl) (hms : ms = masks ops.toList []) (hE : edgeOK 0 ops.toList = true) (St : (Nat → Bool) → S) {Q : Exit → Act → World → Prop}
    (hstep : ∀ (D : Nat → Bool) (i : Nat) ro m, rl[i]? = some ro → ms[i]? = some m → D i = false → (∀ j, tb m j → D j = true) → (∀ i' m', D i' = true → ms[i']? = some m' → ∀ j, tb m' j → D j = true) → chain P none [ro] (St D) (fun s' => le s' (St fun j => if j = i then true else D j)))
    (hend : ∀ D : Nat → Bool, (∀ j, j < rl.length → D j = true) → ∀ E a w, SatS G (St D) E a w → Q .normal a w) :
    ∀ (fuel : Nat) (listed : Array Bool) (E : Env) (a : Act) (w : World), unl listed ≤ fuel → LI ops ms listed → SatS G (St fun j => listed.getD j false) E a w → wpAnyIn (W1 r) nf P .any ops Q fuel listed a w := by
  obtain ⟨hl, hsp⟩ := trL_spec hrl
  have hlen : rl.length = ops.size := by rw [hl, Array.length_toList]
  have fin : ∀ (listed : Array Bool) (E : Env) (a : Act) (w : World), LI ops ms listed → Region.ready .any ops listed = [] → SatS G (St fun j => listed.getD j false) E a w → Q .normal a w := fun listed E a w inv hr hS =>
    hend _ (fun j hj => all_listed hE inv hr j j (Nat.le_refl _) (by omega)) E a w hS
  intro fuel
  induction fuel with
  | zero =>
    intro listed E a w hf inv hS
    exact ⟨ready_nil hf, fin listed E a w inv (ready_nil hf) hS⟩
  | succ fuel ih =>
    intro listed E a w hf inv hS
    refine ⟨fun hr => fin listed E a w inv hr hS, fun i hi => ?_⟩
    obtain ⟨hun, oi, hoi, hall⟩ := mem_ready.1 hi
    have hil : i < ops.size := (Array.getElem?_eq_some_iff.1 hoi).1
    have hunf := getD_ff hun
    obtain ⟨mi, hmi⟩ := masks_get hms hil
    obtain ⟨ro, hro, h2⟩ := hsp i oi (by simpa using hoi)
    have hc := hstep (fun j => listed.getD j false) i ro mi hro hmi hunf (fun j hj => (anc hms hE inv i i (Nat.le_refl _) oi mi hoi hmi hall j hj).2) (fun i' m' hi' hm' j hj => by
      have hi2 : i' < ops.size := by
        rcases Nat.lt_or_ge i' listed.size with q | q
        · rw [← inv.size]; exact q
        · simp [Array.getD, Nat.not_lt.2 q] at hi'
      have ho' : ops[i']? = some ops[i'] := Array.getElem?_eq_getElem hi2
      exact (anc hms hE inv i' i' (Nat.le_refl _) ops[i'] m' ho' hm' (inv.closed i' ops[i'] ho' hi') j hj).2)
    have hls : (fun j => if j = i then true else listed.getD j false) = (fun j => (listed.setIfInBounds i true).getD j false) := by
      funext j
      by_cases hij : j = i
      · subst hij
        have : j < listed.size := by rw [inv.size]; exact hil
        simp [this]
      · rw [if_neg hij, getD_set_ne false (Ne.symm hij)]
    rw [hls] at hc
    have hnext : ∀ s' E' a' w', le s' (St fun j => (listed.setIfInBounds i true).getD j false) → SatS G s' E' a' w' → wpAnyIn (W1 r) nf P .any ops Q fuel (listed.setIfInBounds i true) a' w' := fun s' E' a' w' hc' hS' => by
      obtain ⟨E2, h3⟩ := hc' G E' a' w' hS'
      exact ih _ E2 a' w' (by have := unl_set hun; omega) (inv.set hi) h3
    rcases chain_step hc with ⟨p, out, u, _, hok, hc'⟩ | ⟨_, p, hp, hu, hsp'⟩
    rotate_left
    · unfold wpOpIn
      simp only [hoi]
      exact sp_step hG h2 hS hp hu hsp' _ Q (fun s' E' a' w' hc' hS' => hnext s' E' a' w' (by rw [chain_nil] at hc'; exact hc') hS')
    have hslots : ∀ x, sat E w (ev (St fun j => listed.getD j false).tm x) (a.eval x) := fun x => ev_sat hS.st x (fun t _ => rfl)
    obtain ⟨f, hop⟩ := h2.op
    have hG1 : GOk P r nf G (lk (St fun j => listed.getD j false).tm) (lm (St fun j => listed.getD j false).mem) E a w ops oi (gdd p out) u := by
      refine gok_of hS.st h2.gd (by rw [← pathOf_eq]; exact hok.path) (fun g b hg => hslots _) hok.okU (fun hpc => ?_)
      refine hok.sem r nf G _ _ E a w oi ?_ hpc
      rw [stepP_eq]
      exact stepQ_sem hS.st (hS.nx _ (Nat.le_refl _)) hop hpc (fun x _ => hslots x) (by rw [← underAll_eq]; exact hok.under)
    unfold wpOpIn
    simp only [hoi]
    refine hG1 _ Q (fun E' w' v h3 h4 h5 => ?_)
    have hS' := satS_app (dst := oi.dst) (p := p) hS.nx h4 h5 hok.okU (fun d hd => by rw [hG]; exact h2.lt d hd)
    rw [h2.dst] at hc'
    rw [chain_nil] at hc'
    exact hnext _ E' _ w' hc' hS'
end
section
variable {P : Program} {N : Nat} {s : S} {Q : Ex → S → Prop}
theorem W_regJ {ms : List Nat} {rl : List RO} {ks : List Nat} (St : (Nat → Bool) → S) (hs : le s (St fun _ => false))
    (hstep : ∀ (D : Nat → Bool) (i : Nat) ro m, rl[i]? = some ro → ms[i]? = some m → D i = false → (∀ j, tb m j → D j = true) → (∀ i' m', D i' = true → ms[i']? = some m' → ∀ j, tb m' j → D j = true) → chain P none [ro] (St D) (fun s' => le s' (St fun j => if j = i then true else D j)))
    (hend : ∀ D : Nat → Bool, (∀ j, j < rl.length → D j = true) → ∃ s', le (St D) s' ∧ Q .n (s'.keep ks)) : W P N (regL ks (some ms) rl) s Q := by
  intro hm code fz ht r nf G E x w hG hS
  obtain ⟨id, ops, d, rfl, hrl, hd⟩ := trC_reg ht
  rcases hd with ⟨rfl, hx⟩ | ⟨rfl, hx, hE, hO⟩
  · cases hx
  · cases hx
    refine wpIn_region_any hm ?_
    have hrep : ∀ j, (Array.replicate ops.size false).getD j false = false := fun j => by
      rcases Nat.lt_or_ge j ops.size with h | h
      · simp [h]
      · simp [h]
    have hf : (fun j => (Array.replicate ops.size false).getD j false) = fun _ => false := funext hrep
    obtain ⟨E0, hS0⟩ := hs G E x _ ⟨hS.st.drew, hS.nx⟩
    refine reg_invJ hG.1 hrl rfl hE St hstep (fun D hD E a w hS' => ?_) ops.size _ E0 x _ (by simp [unl]) ⟨by simp, fun j oj hj hl => by rw [hrep] at hl; cases hl⟩ (by rw [hf]; exact hS0)
    obtain ⟨s', h1, h2⟩ := hend D hD
    obtain ⟨E2, h3⟩ := h1 G E a w hS'
    exact ⟨_, E2, h2, keep_sat ks h3⟩
end
theorem Ext.put {a nx b nx2 : Nat} {R R2 : Mem} {g : Blk} (h : Ext a R nx R2) (h1 : a ≤ b) (h2 : b < nx2) (h3 : nx ≤ nx2) : Ext a R nx2 (setm R2 b g) :=
  ⟨Nat.le_trans h.n h3, fun j hj => by rw [lm_set_other _ _ (by omega)]; exact h.eq j hj, fun j hj => by rw [lm_set_other _ _ (by omega)]; exact h.hi j (by omega)⟩
section
variable {P : Program} {N : Nat}
end
section
variable {P : Program} {r : Option Nat} {nf N : Nat} {fz : List Nat} {G : Gl} {ops : Array Oper} {rl : List RO} {ms : List Nat}
end
section
variable {P : Program} {N : Nat} {s : S} {Q : Ex → S → Prop}
end
section
variable {P : Program} {r : Option Nat} {nf : Nat} {G : Gl} {tm : Nat → AV} {mem : Nat → Option Blk} {E : Env} {a : Act} {w : World} {o : Oper}
end
theorem le_frzP {s : S} (t : Nat) (x : AV) (ks bs : List Nat) (nx : Nat) (h : normOK ks bs nx s = true)
    (hx : ∀ G E a w, SatS G s E a w → ∃ b0 : Nat → Prop, (∀ b, b0 b → b < w.heap.size ∧ G.w0.heap.size ≤ b ∧ ∃ k blk, has bs k = false ∧ lm s.mem k = some blk ∧ blkLoc E k blk = some b ∧ blk.isOth = false) ∧ fsat (fun b => E.F b ∨ b0 b) w x (a.tmps.getD t undef)) :
    le s ⟨(t, x) :: keepL s.tm ks, keepM bs s.mem, nx⟩ := by
  intro G E a w hS
  obtain ⟨b0, hb0, hsx⟩ := hx G E a w hS
  obtain ⟨E1, hS1⟩ := le_norm ks bs nx h G E a w hS
  simp only [normOK, Bool.and_eq_true] at h
  obtain ⟨⟨h1, h2⟩, h3⟩ := h
  have hb : ∀ k, has bs k = true → (E.res bs).b k = E.b k := fun k hk => by simp [Env.res, hk]
  have hh : ∀ k, has bs k = true → ∀ s, (E.res bs).h k s = E.h k s := fun k hk s => by simp [Env.res, hk]
  have hlm : ∀ k blk, lm (keepM bs s.mem) k = some blk → has bs k = true ∧ lm s.mem k = some blk := fun k blk hk => by
    rw [lm_keepM] at hk
    split at hk
    · rename_i h; exact ⟨h, hk⟩
    · cases hk
  have hpl : ∀ b, b0 b → plainB w b := fun b hb => by
    obtain ⟨q0, _, k0, blk0, _, q1, q2, q3⟩ := hb0 b hb
    have hc := blkLoc_cells blk0 q3 (hS.st.memv k0 blk0 q1) b q2
    exact ⟨fun x hx => (by have := hc _ hx; cases this), fun r hr => (by have := hc _ hr; cases this)⟩
  let F' : Nat → Prop := fun b => E.F b ∨ b0 b
  let E' : Env := ⟨(E.res bs).b, (E.res bs).h, F'⟩
  have hle : (E.res bs).le E' := ⟨fun _ _ h => h, fun _ _ _ h => h, fun _ h => .inl h⟩
  have hkeq : ∀ l : List Nat, (l.map fun t => (t, lk s.tm t)) = keepL s.tm l := fun l => by
    induction l with
    | nil => rfl
    | cons a l ih => simp only [List.map_cons, keepL, ih]
  refine ⟨E', ⟨?_, fun k hk => ?_⟩⟩
  · exact {
      ext := hS.st.ext
      fz := fun b hb => by
        rcases hb with hb | hb
        · exact hS.st.fz b hb
        · obtain ⟨q1, q2, _⟩ := hb0 b hb
          exact ⟨q1, .inr q2⟩
      tmv := fun t' => by
        simp only [lk]
        split
        · rename_i he; subst he
          exact sat_of_fsat (E := E') _ _ hsx
        · have hres : sat (E.res bs) w (lk (keepL s.tm ks) t') (a.tmps.getD t' undef) := by
            rw [← hkeq]
            refine sat_res _ _ (okTm_spec h1) ?_
            rcases lk_keep ks (lk s.tm) t' with h | h
            · rw [h]; exact hS.st.tmv t'
            · rw [h]; simp only [sat]
          exact sat_mono hle (fun _ _ => rfl) _ _ hres
      sz := hS.st.sz
      memv := fun k blk hk => by
        obtain ⟨hk1, hk2⟩ := hlm k blk hk
        have hbs := hS.st.memv k blk hk2
        have ho := okMem_spec h2 hk1 hk2
        cases blk with
        | cells l =>
          obtain ⟨b, cs, T, q1, q2, q3, q4⟩ := hbs
          exact ⟨b, cs, T, (hb k hk1).trans q1, q2, q3, satL_mono hle (fun _ _ => rfl) _ _ (satL_res _ _ (by simpa only [okBlk] using ho) q4)⟩
        | row s' e n d f l =>
          obtain ⟨v, xs, q1, q2, q3, q4⟩ := hbs
          refine ⟨v, xs, (hh k hk1 s').trans q1, q2, q3, fun i x hx => ?_⟩
          obtain ⟨q5, q6⟩ := q4 i x hx
          exact ⟨q5, fsatL_mono (fun b hb => .inl hb) (fun _ _ => rfl) _ _ q6⟩
        | oth x =>
          cases x with
          | fr vs tm => exact fun t => sat_mono hle (fun _ _ => rfl) _ _ (sat_res _ _ (okTm_spec ho) (hbs t))
          | lp l rec tm => exact ⟨hbs.1, hbs.2.1, fun t => sat_mono hle (fun _ _ => rfl) _ _ (sat_res _ _ (okTm_spec ho) (hbs.2.2 t))⟩
          | mp b kd g => exact hbs
          | si b s pos => exact hbs
          | nm k' b => exact (hb k' ho).trans hbs
      inj := fun k k' blk blk' b hk hk' hbl hbl' => by
        obtain ⟨hk1, hk2⟩ := hlm k blk hk
        obtain ⟨hk1', hk2'⟩ := hlm k' blk' hk'
        rw [blkLoc_same (E := E) (E' := E') (hb k hk1) (hh k hk1)] at hbl
        rw [blkLoc_same (E := E) (E' := E') (hb k' hk1') (hh k' hk1')] at hbl'
        exact hS.st.inj k k' blk blk' b hk2 hk2' hbl hbl'
      nF := fun k' blk b hk' hbl hF => by
        obtain ⟨hk1, hk2⟩ := hlm k' blk hk'
        rw [blkLoc_same (E := E) (E' := E') (hb k' hk1) (hh k' hk1)] at hbl
        rcases hF with hF | hF
        · exact hS.st.nF k' blk b hk2 hbl hF
        · obtain ⟨_, _, k0, blk0, q0, q1, q2, _⟩ := hb0 b hF
          have := hS.st.inj k' k0 blk blk0 b hk2 q1 hbl q2
          subst this
          rw [q0] at hk1; cases hk1
      fresh := fun k hk => by
        by_cases hx : has bs k = true
        · rw [lm_keepM, if_pos hx] at hk
          obtain ⟨q1, q2⟩ := hS.st.fresh k hk
          exact ⟨(hb k hx).trans q1, fun s => (hh k hx s).trans (q2 s)⟩
        · exact ⟨by simp [E', Env.res, hx], fun s => by simp [E', Env.res, hx]⟩
      stampC := fun k l s' hk => by
        obtain ⟨hk1, hk2⟩ := hlm k _ hk
        exact (hh k hk1 s').trans (hS.st.stampC k l s' hk2)
      stampR := fun k s' e n α d f l hk => by
        obtain ⟨hk1, hk2⟩ := hlm k _ hk
        have := hS.st.stampR k s' e n α d f l hk2
        exact ⟨(hb k hk1).trans this.1, fun s'' hs => (hh k hk1 s'').trans (this.2 s'' hs)⟩
      stampO := fun k x hk => by
        obtain ⟨hk1, hk2⟩ := hlm k _ hk
        have := hS.st.stampO k x hk2
        exact ⟨(hb k hk1).trans this.1, fun s'' => (hh k hk1 s'').trans (this.2 s'')⟩
      df := fun d hd => by
        obtain ⟨D, rfl, q1, q2, q3⟩ := hS.st.df d hd
        refine ⟨D, rfl, q1, fun hF => ?_, q3⟩
        rcases hF with hF | hF
        · exact q2 hF
        · exact (hpl D hF).1 _ q3
      dn := hS.st.dn
      kd := hS.st.kd
      kF := fun b hF => by
        rcases hF with hF | hF
        · exact hS.st.kF b hF
        · exact .inr (hS.st.kd.plain (hpl b hF))
      rd := hS.st.rd }
  · show lm (keepM bs s.mem) k = none
    rw [lm_keepM]
    split
    · rename_i hx
      have hk' : nx ≤ k := hk
      have := allLt_spec h3 hx; omega
    · rfl
section
variable {P : Program} {N : Nat} {s s' : S}
end
section
variable {P : Program} {N : Nat}
end
theorem syf {F p q : Prop} (f : F) (h : q) (e : F → p = q := by intro f; conv => lhs; simp (maxSteps := 400000) (disch := omega) only [push_cast, ↓reduceIte, reduceCtorEq, Nat.reduceAdd, Nat.reduceSub, Nat.reduceEqDiff, Nat.reduceLeDiff, Nat.reduceLT, Nat.reduceBEq, Nat.reduceDiv, Nat.reduceMod, Nat.reducePow, Nat.reduceMul, Int.reduceToNat, Int.reduceLT, Int.reduceLE, f]) : p := (e f).mpr h
theorem eqf {F p q : Prop} (f : F) (h : q) (e : F → p = q := by intro f; conv => lhs; simp (maxSteps := 400000) (disch := omega) only [push_cast, ↓reduceIte, reduceCtorEq, Nat.reduceAdd, Nat.reduceSub, Nat.reduceEqDiff, Nat.reduceLeDiff, Nat.reduceLT, Nat.reduceBEq, Nat.reduceDiv, Nat.reduceMod, Nat.reducePow, Nat.reduceMul, Int.reduceToNat, Int.reduceLT, Int.reduceLE, S.mk.injEq, List.cons.injEq, Prod.mk.injEq, AV.v.injEq, Value.int.injEq, Value.bool.injEq, Blk.cells.injEq, f]) : p := (e f).mpr h
theorem syP {p q : Prop} (h : q) (e : p = q := by conv => lhs; simp (maxSteps := 400000) (disch := omega) only [push_cast, ↓reduceIte, reduceCtorEq, Nat.reduceAdd, Nat.reduceSub, Nat.reduceEqDiff, Nat.reduceLeDiff, Nat.reduceLT, Nat.reduceBEq, Nat.reduceDiv, Nat.reduceMod, Nat.reducePow, Nat.reduceMul, Int.reduceToNat, Int.reduceLT, Int.reduceLE, pack]) : p := (e).mpr h
theorem syN {p q : Prop} (h : q) (e : p = q := by conv => lhs; simp (maxSteps := 400000) (disch := omega) only [push_cast, ↓reduceIte, reduceCtorEq, Nat.reduceAdd, Nat.reduceSub, Nat.reduceEqDiff, Nat.reduceLeDiff, Nat.reduceLT, Nat.reduceBEq, Nat.reduceDiv, Nat.reduceMod, Nat.reducePow, Nat.reduceMul, Int.reduceToNat, Int.reduceLT, Int.reduceLE, EndP]) : p := (e).mpr h
theorem sCP {p q : Prop} (h : q) (e : p = q := by conv => lhs; simp (maxSteps := 400000) (disch := omega) only [push_cast, ↓reduceIte, reduceCtorEq, Nat.reduceAdd, Nat.reduceSub, Nat.reduceEqDiff, Nat.reduceLeDiff, Nat.reduceLT, Nat.reduceBEq, Nat.reduceDiv, Nat.reduceMod, Nat.reducePow, Nat.reduceMul, Int.reduceToNat, Int.reduceLT, Int.reduceLE, chainP, List.take_succ_cons, List.take_zero, List.drop_succ_cons, List.drop_zero]) : p := (e).mpr h
theorem sCS {p q : Prop} (h : q) (e : p = q := by conv => lhs; simp (maxSteps := 400000) (disch := omega) only [push_cast, ↓reduceIte, reduceCtorEq, Nat.reduceAdd, Nat.reduceSub, Nat.reduceEqDiff, Nat.reduceLeDiff, Nat.reduceLT, Nat.reduceBEq, Nat.reduceDiv, Nat.reduceMod, Nat.reducePow, Nat.reduceMul, Int.reduceToNat, Int.reduceLT, Int.reduceLE, chainX, SpM, List.take_succ_cons, List.take_zero, List.drop_succ_cons, List.drop_zero]) : p := (e).mpr h
theorem ad2 {a b : Prop} (ha : a) (hb : b) : a ∧ b := ⟨ha, hb⟩
theorem ad3 {a b c : Prop} (ha : a) (hb : b) (hc : c) : a ∧ b ∧ c := ⟨ha, hb, hc⟩
theorem ad4 {a b c d : Prop} (ha : a) (hb : b) (hc : c) (hd : d) : a ∧ b ∧ c ∧ d := ⟨ha, hb, hc, hd⟩
theorem ad5 {a b c d e : Prop} (ha : a) (hb : b) (hc : c) (hd : d) (he : e) : a ∧ b ∧ c ∧ d ∧ e := ⟨ha, hb, hc, hd, he⟩
theorem ad6 {a b c d e f : Prop} (ha : a) (hb : b) (hc : c) (hd : d) (he : e) (hf : f) : a ∧ b ∧ c ∧ d ∧ e ∧ f := ⟨ha, hb, hc, hd, he, hf⟩
theorem ad7 {a b c d e f g : Prop} (ha : a) (hb : b) (hc : c) (hd : d) (he : e) (hf : f) (hg : g) : a ∧ b ∧ c ∧ d ∧ e ∧ f ∧ g := ⟨ha, hb, hc, hd, he, hf, hg⟩
theorem go_c {A p q : Prop} (c : A) (h : q) (e : A → Hid q → p := by intro c hq; (repeat' (first | refine w1g ?_ | refine w1l ?_ | refine w1q ?_ | refine w1b ?_ | refine w1p ?_ | ((first | refine w1r ?_ | refine w1k ?_ | refine w1e ?_ | refine CallC.now (c ..) ?_); (refine sy1 ?_; try exact True.intro)) | refine an2 ?_ | fail)); all_goals exact hq.get) : p := e c ⟨h⟩
theorem go_g {A p q : Prop} (c : A) (h : q) (e : A → Hid q → p := by intro c hq; (repeat' (first | refine w1g ?_ | refine w1l ?_ | refine w1q ?_ | refine w1b ?_ | refine w1p ?_ | ((first | refine w1r ?_ | refine w1k ?_ | refine w1e ?_ | refine CallC.go _ (fun _ => ⟨trivial, c ..⟩) rfl ?_); (refine sy1 ?_; try exact True.intro)) | refine an2 ?_ | fail)); all_goals exact hq.get) : p := e c ⟨h⟩
theorem go_cc {A B p q : Prop} (c : A) (d : B) (h : q) (e : A → B → Hid q → p := by intro c d hq; (repeat' (first | refine w1g ?_ | refine w1l ?_ | refine w1q ?_ | refine w1b ?_ | refine w1p ?_ | ((first | refine w1r ?_ | refine w1k ?_ | refine w1e ?_ | refine CallC.now (c ..) ?_ | refine CallC.now (d ..) ?_); (refine sy1 ?_; try exact True.intro)) | refine an2 ?_ | fail)); all_goals exact hq.get) : p := e c d ⟨h⟩
theorem go_cg {A B p q : Prop} (c : A) (d : B) (h : q) (e : A → B → Hid q → p := by intro c d hq; (repeat' (first | refine w1g ?_ | refine w1l ?_ | refine w1q ?_ | refine w1b ?_ | refine w1p ?_ | ((first | refine w1r ?_ | refine w1k ?_ | refine w1e ?_ | refine CallC.now (c ..) ?_ | refine CallC.go _ (fun _ => ⟨trivial, d ..⟩) rfl ?_); (refine sy1 ?_; try exact True.intro)) | refine an2 ?_ | fail)); all_goals exact hq.get) : p := e c d ⟨h⟩
theorem go_gg {A B p q : Prop} (c : A) (d : B) (h : q) (e : A → B → Hid q → p := by intro c d hq; (repeat' (first | refine w1g ?_ | refine w1l ?_ | refine w1q ?_ | refine w1b ?_ | refine w1p ?_ | ((first | refine w1r ?_ | refine w1k ?_ | refine w1e ?_ | refine CallC.go _ (fun _ => ⟨trivial, c ..⟩) rfl ?_ | refine CallC.go _ (fun _ => ⟨trivial, d ..⟩) rfl ?_); (refine sy1 ?_; try exact True.intro)) | refine an2 ?_ | fail)); all_goals exact hq.get) : p := e c d ⟨h⟩
theorem gof {F p q : Prop} (f : F) (h : q) (e : F → Hid q → p := by intro f hq; (repeat' (first | refine w1g ?_ | refine w1l ?_ | refine w1q ?_ | refine w1b ?_ | refine w1p ?_ | ((first | refine w1r ?_ | refine w1k ?_ | refine w1e ?_); (refine syf f ?_; try exact True.intro)) | refine an2 ?_ | fail)); all_goals exact hq.get) : p := e f ⟨h⟩
theorem gofc {F A p q : Prop} (f : F) (c : A) (h : q) (e : F → A → Hid q → p := by intro f c hq; (repeat' (first | refine w1g ?_ | refine w1l ?_ | refine w1q ?_ | refine w1b ?_ | refine w1p ?_ | ((first | refine w1r ?_ | refine w1k ?_ | refine w1e ?_ | refine CallC.now (c ..) ?_); (refine syf f ?_; try exact True.intro)) | refine an2 ?_ | fail)); all_goals exact hq.get) : p := e f c ⟨h⟩
theorem gofg {F A p q : Prop} (f : F) (c : A) (h : q) (e : F → A → Hid q → p := by intro f c hq; (repeat' (first | refine w1g ?_ | refine w1l ?_ | refine w1q ?_ | refine w1b ?_ | refine w1p ?_ | ((first | refine w1r ?_ | refine w1k ?_ | refine w1e ?_ | refine CallC.go _ (fun _ => ⟨trivial, c ..⟩) rfl ?_); (refine syf f ?_; try exact True.intro)) | refine an2 ?_ | fail)); all_goals exact hq.get) : p := e f c ⟨h⟩
theorem gofcc {F A B p q : Prop} (f : F) (c : A) (d : B) (h : q) (e : F → A → B → Hid q → p := by intro f c d hq; (repeat' (first | refine w1g ?_ | refine w1l ?_ | refine w1q ?_ | refine w1b ?_ | refine w1p ?_ | ((first | refine w1r ?_ | refine w1k ?_ | refine w1e ?_ | refine CallC.now (c ..) ?_ | refine CallC.now (d ..) ?_); (refine syf f ?_; try exact True.intro)) | refine an2 ?_ | fail)); all_goals exact hq.get) : p := e f c d ⟨h⟩
theorem gofcg {F A B p q : Prop} (f : F) (c : A) (d : B) (h : q) (e : F → A → B → Hid q → p := by intro f c d hq; (repeat' (first | refine w1g ?_ | refine w1l ?_ | refine w1q ?_ | refine w1b ?_ | refine w1p ?_ | ((first | refine w1r ?_ | refine w1k ?_ | refine w1e ?_ | refine CallC.now (c ..) ?_ | refine CallC.go _ (fun _ => ⟨trivial, d ..⟩) rfl ?_); (refine syf f ?_; try exact True.intro)) | refine an2 ?_ | fail)); all_goals exact hq.get) : p := e f c d ⟨h⟩
theorem gofccc {F A B C p q : Prop} (f : F) (c : A) (d : B) (g : C) (h : q) (e : F → A → B → C → Hid q → p := by intro f c d g hq; (repeat' (first | refine w1g ?_ | refine w1l ?_ | refine w1q ?_ | refine w1b ?_ | refine w1p ?_ | ((first | refine w1r ?_ | refine w1k ?_ | refine w1e ?_ | refine CallC.now (c ..) ?_ | refine CallC.now (d ..) ?_ | refine CallC.now (g ..) ?_); (refine syf f ?_; try exact True.intro)) | refine an2 ?_ | fail)); all_goals exact hq.get) : p := e f c d g ⟨h⟩
inductive FrzC (m : List (Nat × Blk)) (bs : List Nat) : List AV → List AV → Prop
  | nil : FrzC m bs [] []
  | same {x : AV} {l l' : List AV} (hx : frzB x = true) (h : FrzC m bs l l') : FrzC m bs (x :: l) (x :: l')
  | row {k st T n : Nat} {α : Type} {d : α} {f : α → List AV} {r : List α} {l l' : List AV} (hm : lm m k = some (.row st T n d f r)) (hk : has bs k = false) (h : FrzC m bs l l') : FrzC m bs (.row k st :: l) (.sl n d f r :: l')
theorem frzC_sat {s : S} {bs : List Nat} {G : Gl} {E : Env} {a : Act} {w : World} (hS : SatS G s E a w) {F' : Nat → Prop} (hF : ∀ b, E.F b → F' b) (hB : ∀ b k blk, has bs k = false → lm s.mem k = some blk → blkLoc E k blk = some b → blk.isOth = false → F' b)
    {l l' : List AV} (h : FrzC s.mem bs l l') : ∀ vs, satL E w l vs → fsatL F' w l' vs := by
  induction h with
  | nil => exact fun vs hv => hv
  | same hx _ ih =>
    rintro vs ⟨x, xs, rfl, h1, h2, h3⟩
    exact ⟨x, xs, rfl, h1, fsat_mono hF (fun _ _ => rfl) _ _ (fsat_of_sat _ _ hx h2), ih xs h3⟩
  | row hm hk _ ih =>
    rintro vs ⟨x, xs, rfl, h1, h2, h3⟩
    obtain ⟨b0, q1, q2⟩ := row_frz hS hm
    refine ⟨x, xs, rfl, h1, fsat_mono (fun b hb => ?_) (fun _ _ => rfl) _ _ (q2 x h2), ih xs h3⟩
    rcases hb with hb | hb
    · exact hF b hb
    · obtain ⟨_, _, blk, p1, p2, p3⟩ := q1 b hb
      exact hB b _ blk hk p1 p2 p3
theorem le_frzO {s : S} (t : Nat) (ks bs : List Nat) (nx D o : Nat) (l l' : List AV) (ht : lk s.tm t = .own D o) (hm : lm s.mem D = some (.cells l)) (hD : has bs D = false) (hl : FrzC s.mem bs l l') (h : normOK ks bs nx s = true) :
    le s ⟨(t, .fp l' o) :: keepL s.tm ks, keepM bs s.mem, nx⟩ :=
  le_frzP t (.fp l' o) ks bs nx h fun G E a w hS => by
    have h1 := hS.st.tmv t
    rw [ht] at h1
    simp only [sat] at h1
    obtain ⟨b, h2, h3⟩ := h1
    obtain ⟨b', cs, T, h4, h5, h6, h7⟩ := hS.st.memv D _ hm
    rw [h2] at h4; cases h4
    refine ⟨fun b => ∃ k blk, has bs k = false ∧ lm s.mem k = some blk ∧ blkLoc E k blk = some b ∧ blk.isOth = false, fun b ⟨k, blk, q1, q2, q3, q4⟩ => ?_, ?_⟩
    · have := blkLoc_lt blk (hS.st.memv k blk q2) b q3
      exact ⟨this.2, this.1, k, blk, q1, q2, q3, q4⟩
    · simp only [fsat]
      refine ⟨b, 0, cs.toList, by rw [h3, Nat.zero_add], .inr ⟨D, _, hD, hm, h2, rfl⟩, cellsAt_of_heap h6, ?_⟩
      exact frzC_sat hS (fun b hb => .inl hb) (fun b k blk q1 q2 q3 q4 => .inr ⟨k, blk, q1, q2, q3, q4⟩) hl _ h7
theorem le_frzG {s : S} (t : Nat) (ks bs : List Nat) (nx : Nat) (l l' : List AV) (ht : lk s.tm t = .agg l) (hl : FrzC s.mem bs l l') (h : normOK ks bs nx s = true) :
    le s ⟨(t, .agg l') :: keepL s.tm ks, keepM bs s.mem, nx⟩ :=
  le_frzP t (.agg l') ks bs nx h fun G E a w hS => by
    have h1 := hS.st.tmv t
    rw [ht] at h1
    simp only [sat] at h1
    obtain ⟨vs, h2, h3⟩ := h1
    refine ⟨fun b => ∃ k blk, has bs k = false ∧ lm s.mem k = some blk ∧ blkLoc E k blk = some b ∧ blk.isOth = false, fun b ⟨k, blk, q1, q2, q3, q4⟩ => ?_, ?_⟩
    · have := blkLoc_lt blk (hS.st.memv k blk q2) b q3
      exact ⟨this.2, this.1, k, blk, q1, q2, q3, q4⟩
    · simp only [fsat]
      exact ⟨vs, h2, frzC_sat hS (fun b hb => .inl hb) (fun b k blk q1 q2 q3 q4 => .inr ⟨k, blk, q1, q2, q3, q4⟩) hl _ h3⟩
end Sy
