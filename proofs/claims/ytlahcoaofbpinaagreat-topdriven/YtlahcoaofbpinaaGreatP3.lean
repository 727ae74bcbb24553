/- Part 3 of the proof of: TopDriven: for every input the law returns true -/
import Derived.Test.YtlahcoaofbpinaaGreatP2
import Derived.Shelf.Sort.Plain
import Derived.Shelf.Slices.In.SortNone
namespace Sy
open Go Go.RowKit
set_option linter.unusedVariables false
set_option linter.unusedSimpArgs false
section
variable {P : Program} {r : Option Nat} {nf N : Nat} {fz : List Nat} {G : Gl} {ops : Array Oper} {rl : List RO} {ms : List Nat}
end
section
variable {P : Program} {N : Nat} {s : S} {Q : Ex → S → Prop}
end
section
variable {P : Program} {r : Option Nat} {nf N : Nat} {fz : List Nat} {G : Gl} {ops : Array Oper} {rl : List RO}
theorem inorder_part (hG : G.N = N) (hrl : trL P N fz ops ops.toList = some rl) {Q : Exit → Act → World → Prop} {K : S → Prop} {m e : Nat}
    (hK : ∀ s E a w, K s → SatS G s E a w → wpOpsIn (W1 r) nf P ops Q (List.range' e m) a w) :
    ∀ (k i : Nat) (s : S) (E : Env) (a : Act) (w : World), i + k = e → e + m = ops.size → chain P none ((rl.drop i).take k) s K → SatS G s E a w → wpOpsIn (W1 r) nf P ops Q (List.range' i (k + m)) a w
  | 0, i, s, E, a, w, hi, he, hc, hS => by
    rw [List.take_zero, chain_nil] at hc
    rw [Nat.zero_add, show i = e by omega]
    exact hK s E a w hc hS
  | k + 1, i, s, E, a, w, hi, he, hc, hS => by
    obtain ⟨hl, hsp⟩ := trL_spec hrl
    have hil : i < ops.size := by omega
    obtain ⟨ro, h1, h2⟩ := hsp i ops[i] (by simp [hil])
    have hdrop : rl.drop i = ro :: rl.drop (i + 1) := by
      have hlt : i < rl.length := by rw [hl, Array.length_toList]; exact hil
      rw [List.drop_eq_getElem_cons hlt]
      congr 1
      rw [List.getElem?_eq_getElem hlt] at h1
      simpa using h1
    rw [hdrop, List.take_succ_cons] at hc
    rw [show k + 1 + m = (k + m) + 1 by omega]
    rcases chain_step hc with ⟨p, out, u, _, hok, hc'⟩ | ⟨_, p, hp, hu, hsp⟩
    rotate_left
    · rw [List.range'_succ, wpOpsIn_cons]
      unfold wpOpIn
      simp only [Array.getElem?_eq_getElem hil]
      exact sp_step hG h2 hS hp hu hsp _ Q (fun s' E' a' w' hc' hS' => inorder_part hG hrl hK k (i + 1) s' E' a' w' (by omega) he hc' hS')
    have hslots : ∀ x, sat E w (ev s.tm x) (a.eval x) := fun x => ev_sat hS.st x (fun t _ => rfl)
    obtain ⟨f, hop⟩ := h2.op
    have hG1 : GOk P r nf G (lk s.tm) (lm s.mem) E a w ops ops[i] (gdd p out) u := by
      refine gok_of hS.st h2.gd (by rw [← pathOf_eq]; exact hok.path) (fun g b hg => hslots _) hok.okU (fun hpc => ?_)
      refine hok.sem r nf G _ _ E a w ops[i] ?_ hpc
      rw [stepP_eq]
      exact stepQ_sem hS.st (hS.nx _ (Nat.le_refl _)) hop hpc (fun x _ => hslots x) (by rw [← underAll_eq]; exact hok.under)
    rw [List.range'_succ, wpOpsIn_cons]
    unfold wpOpIn
    simp only [Array.getElem?_eq_getElem hil]
    refine hG1 _ Q (fun E' w' v h3 h4 h5 => ?_)
    have hS' := satS_app (dst := ops[i].dst) (p := p) hS.nx h4 h5 hok.okU (fun d hd => by rw [hG]; exact h2.lt d hd)
    rw [h2.dst] at hc'
    exact inorder_part hG hrl hK k (i + 1) _ E' _ w' (by omega) he hc' hS'
def chainP (P : Program) : List Nat → List RO → S → (S → Prop) → Prop
  | [], rl, s, K => chain P none rl s K
  | n :: ns, rl, s, K => chain P none (rl.take n) s (fun s1 => ∃ s2, le s1 s2 ∧ chainP P ns (rl.drop n) s2 K)
theorem inorderP (hG : G.N = N) (hrl : trL P N fz ops ops.toList = some rl) {Q : Exit → Act → World → Prop} {K : S → Prop} (hK : ∀ s E a w, K s → SatS G s E a w → Q .normal a w) :
    ∀ (ns : List Nat) (i m : Nat) (s : S) (E : Env) (a : Act) (w : World), i + m = ops.size → ns.sum ≤ m → chainP P ns (rl.drop i) s K → SatS G s E a w → wpOpsIn (W1 r) nf P ops Q (List.range' i m) a w
  | [], i, m, s, E, a, w, hi, _, hc, hS => inorder hG hrl hK m i s E a w hi hc hS
  | n :: ns, i, m, s, E, a, w, hi, hn, hc, hS => by
    rw [List.sum_cons] at hn
    have h1 := inorder_part (r := r) (nf := nf) (Q := Q) (m := m - n) (e := i + n) hG hrl (K := fun s1 => ∃ s2, le s1 s2 ∧ chainP P ns ((rl.drop i).drop n) s2 K) (fun s1 E1 a1 w1 hk hS1 => by
      obtain ⟨s2, hle, hc2⟩ := hk
      obtain ⟨E2, hS2⟩ := hle G E1 a1 w1 hS1
      rw [List.drop_drop] at hc2
      exact inorderP hG hrl hK ns (i + n) (m - n) s2 E2 a1 w1 (by omega) (by omega) hc2 hS2) n i s E a w rfl (by omega) hc hS
    rwa [show n + (m - n) = m by omega] at h1
end
section
variable {P : Program} {N : Nat} {s : S} {Q : Ex → S → Prop}
theorem W_regP {rl : List RO} {ks : List Nat} (ns : List Nat) (hn : ns.sum ≤ rl.length) (h : chainP P ns rl s (fun s' => Q .n (s'.keep ks))) : W P N (regL ks none rl) s Q := by
  intro hm code fz ht r nf G E x w hG hS
  obtain ⟨id, ops, d, rfl, hrl, hd⟩ := trC_reg ht
  have hlen : rl.length = ops.size := by rw [(trL_spec hrl).1, Array.length_toList]
  rcases hd with ⟨rfl, hx⟩ | ⟨rfl, hx, hE, hO⟩
  · refine wpIn_region ?_
    rw [List.range_eq_range']
    exact inorderP hG.1 hrl (K := fun s' => Q .n (s'.keep ks)) (fun s E a w hk hS => ⟨_, E, hk, keep_sat ks hS⟩) ns 0 ops.size s E x w (by omega) (by omega) (by rw [List.drop_zero]; exact h) hS
  · cases hx
end
theorem row_frz {G : Gl} {s : S} {E : Env} {a : Act} {w : World} (hS : SatS G s E a w) {k st T n : Nat} {α : Type} {d : α} {f : α → List AV} {l : List α} (hm : lm s.mem k = some (.row st T n d f l)) :
    ∃ b0 : Option Nat, (∀ b, b0 = some b → b < w.heap.size ∧ G.w0.heap.size ≤ b ∧ ∃ blk, lm s.mem k = some blk ∧ blkLoc E k blk = some b ∧ blk.isOth = false) ∧ ∀ y, sat E w (.row k st) y → fsat (fun b => E.F b ∨ b0 = some b) w (.sl n d f l) y := by
  obtain ⟨hh, xs, h1, h4, h5, h6⟩ := hS.st.memv k _ hm
  have hy : ∀ y, sat E w (.row k st) y → y = hv hh := fun y h0 => by
    simp only [sat] at h0
    obtain ⟨hh', g1, g2⟩ := h0
    rw [h1] at g1; cases g1; exact g2
  have hloc : ∀ b, (hv hh).ownBlock = some b → blkLoc E k (.row st T n d f l) = some b := fun b hb => by simp only [blkLoc, h1, Option.bind_some]; exact hb
  rcases h4.2 with ⟨h7, h8⟩ | ⟨g, cap, cur, h7, h8, h9, h10, h11, h12, h13⟩
  · refine ⟨none, fun b (hb : (none : Option Nat) = some b) => (by cases hb), fun y h0 => ?_⟩
    have hl : l = [] := List.eq_nil_of_length_eq_zero h8
    subst hl
    simp only [fsat]
    exact ⟨none, 0, by rw [hy y h0, h7]; rfl, Nat.le_refl _, .inl rfl, by simp⟩
  · refine ⟨some g, fun b (hb : some g = some b) => ?_, fun y h0 => ?_⟩
    · cases hb
      exact ⟨(Array.getElem?_eq_some_iff.1 h9).1, h8, _, hm, hloc g (by rw [h7]; rfl), rfl⟩
    · simp only [fsat]
      refine ⟨some ⟨g, 0, none⟩, cap, by rw [hy y h0, h7], h10, .inr ⟨g, 0, rfl, .inr (by simp)⟩, .inr ⟨g, 0, rfl, .inr (by simp), fun i x hx => ?_⟩⟩
      obtain ⟨h14, h15⟩ := h6 i x hx
      have hc0 : cellsAt w g 0 xs := fun j u hu => by
        have := h4.cells (g := g) (by rw [h7]; rfl) j u hu
        unfold Addr.add at this
        split at this
        · rename_i h0; subst h0; simpa using this
        · simpa using this
      exact ⟨h14, _, cellsAt_take (cellsAt_drop hc0), fsatL_mono (fun b hb => .inl hb) (fun _ _ => rfl) _ _ h15⟩
theorem satL_frz {E : Env} {w : World} {F' : Nat → Prop} {x x' : AV} {post : List AV} (hF : ∀ b, E.F b → F' b) (hx : ∀ y, sat E w x y → fsat F' w x' y) (hpost : frzAll post = true) : ∀ (pre : List AV) (vs : List Value), frzAll pre = true → satL E w (pre ++ x :: post) vs → fsatL F' w (pre ++ x' :: post) vs
  | [], vs, _, h => by
    simp only [List.nil_append, satL] at h
    obtain ⟨y, ys, rfl, h1, h2, h3⟩ := h
    simp only [List.nil_append, fsatL]
    exact ⟨y, ys, rfl, h1, hx y h2, fsatL_mono hF (fun _ _ => rfl) _ _ (fsatL_of_satL _ _ hpost h3)⟩
  | c :: pre, vs, hp, h => by
    have hp' : frzAll [c] = true ∧ frzAll pre = true := by
      simp only [frzAll, Bool.and_eq_true] at hp ⊢
      exact ⟨⟨hp.1, trivial⟩, hp.2⟩
    simp only [List.cons_append, satL] at h
    obtain ⟨y, ys, rfl, h1, h2, h3⟩ := h
    simp only [List.cons_append, fsatL]
    have h4 : fsatL E.F w [c] [y] := fsatL_of_satL _ _ hp'.1 (by simp only [satL]; exact ⟨y, [], rfl, h1, h2, rfl⟩)
    simp only [fsatL] at h4
    obtain ⟨y', ys', h5, h6, h7, h8⟩ := h4
    cases h5
    exact ⟨y, ys, rfl, h1, fsat_mono hF (fun _ _ => rfl) _ _ h7, satL_frz hF hx hpost pre ys hp'.2 h3⟩
theorem le_frzA {s : S} (t : Nat) (pre post : List AV) (ks bs : List Nat) (nx k st T n : Nat) {α : Type} (d : α) (f : α → List AV) (l : List α) (ht : lk s.tm t = .agg (pre ++ .row k st :: post)) (hp : frzAll pre = true) (hq : frzAll post = true)
    (hm : lm s.mem k = some (.row st T n d f l)) (hk : has bs k = false) (h : normOK ks bs nx s = true) : le s ⟨(t, .agg (pre ++ .sl n d f l :: post)) :: keepL s.tm ks, keepM bs s.mem, nx⟩ :=
  le_frzE t (.agg (pre ++ .sl n d f l :: post)) ks bs nx k hk h fun G E a w hS => by
    have h0 := hS.st.tmv t
    rw [ht] at h0
    simp only [sat] at h0
    obtain ⟨vs, h1, h2⟩ := h0
    obtain ⟨b0, h3, h4⟩ := row_frz hS hm
    refine ⟨b0, h3, ?_⟩
    simp only [fsat]
    exact ⟨vs, h1, satL_frz (fun b hb => .inl hb) h4 hq pre vs hp h2⟩
section
variable {P : Program} {N : Nat} {s : S} {Q : Ex → S → Prop}
end
section
variable {P : Program} {N : Nat} {s : S} {Q : Ex → S → Prop}
end
theorem Fn_nil {P : Program} {f n : Nat} {α : Type} {d : α} {g : α → List AV} {pre rest : List AV} {r : AV} (h : Fn P f (pre ++ .sl n d g [] :: rest) r) : Fn P f (pre ++ .v (.slice none 0 0) :: rest) r := by
  refine ⟨h.1, fun A w vs hA hT => h.2 A w vs hA ?_⟩
  clear h
  induction pre generalizing vs with
  | nil =>
    simp only [List.nil_append, fsatT] at hT ⊢
    obtain ⟨x, xs, rfl, h1, h2⟩ := hT
    simp only [fsat] at h1
    subst h1
    exact ⟨_, xs, rfl, by simp only [fsat]; exact ⟨none, 0, rfl, Nat.le_refl _, .inl rfl, .inl trivial⟩, h2⟩
  | cons c pre ih =>
    simp only [List.cons_append, fsatT] at hT ⊢
    obtain ⟨x, xs, rfl, h1, h2⟩ := hT
    exact ⟨x, xs, rfl, h1, ih _ h2⟩
def outN (x : ByteArray) (p : Nat) : AV := if p < x.size then .tup [.v (.bool true), .v (goInt p), .v (.int .i32 (Utf8.decode x p).1)] else .tup [.v (.bool false)]
def advN (x : ByteArray) (p : Nat) : Nat := if p < x.size then p + (Utf8.decode x p).2 else p
section
variable {P : Program} {r : Option Nat} {nf : Nat} {G : Gl} {tm : Nat → AV} {mem : Nat → Option Blk} {E : Env} {a : Act} {w : World} {o : Oper}
theorem Sat.setM (S : Sat G tm mem E a w) {k b kd : Nat} {g g' : Value → Option Value} (hk : mem k = some (.oth (.mp b kd g))) {es : Array MapEntry} {cl : Nat} (hM : MapIs kd es.toList g') :
    Sat G tm (upd mem k (some (.oth (.mp b kd g')))) E a (w.putObj b (.map es cl)) := by
  obtain ⟨h1, es0, cl0, h2, h3⟩ := S.memv k _ hk
  have hlt : b < w.heap.size := (Array.getElem?_eq_some_iff.1 h2).1
  have hlF : ¬ E.F b := S.nF k _ b hk rfl
  have hFs : ∀ c, E.F c → (w.putObj b (.map es cl)).heap[c]? = w.heap[c]? := fun c hc => putD_other (fun e => hlF (e ▸ hc))
  have hof : ∀ j blk, upd mem k (some (Blk.oth (.mp b kd g'))) j = some blk → (j = k ∧ blk = .oth (.mp b kd g')) ∨ (j ≠ k ∧ mem j = some blk) := fun j blk h => by
    simp only [upd] at h
    split at h
    · rename_i he; cases h; exact .inl ⟨he, rfl⟩
    · rename_i he; exact .inr ⟨he, h⟩
  exact {
    ext := ⟨S.ext.os, S.ext.tape, S.ext.output, by rw [putD_size]; exact S.ext.size, fun i hi => (putD_other (by omega)).trans (S.ext.block i hi)⟩
    fz := fun c hc => by rw [putD_size]; exact S.fz c hc
    tmv := fun t => sat_mono (Env.le.refl E) hFs _ _ (S.tmv t)
    sz := S.sz
    memv := fun j blk h => by
      rcases hof j blk h with ⟨rfl, rfl⟩ | ⟨hj, q⟩
      · exact ⟨h1, es, cl, World.putObj_heap_same hlt, hM⟩
      · refine blkSat_mono (Env.le.refl E) hFs blk (fun c hc => putD_other (fun e => hj ?_)) (S.memv j blk q)
        exact S.inj j k blk _ b q hk (e ▸ hc) rfl
    inj := fun j j' blk blk' c h h' hc hc' => by
      rcases hof j blk h with ⟨g1, g2⟩ | ⟨hj, q⟩
      · rcases hof j' blk' h' with ⟨g1', g2'⟩ | ⟨hj', q'⟩
        · rw [g1, g1']
        · subst g2; rw [g1]; exact S.inj k j' _ blk' c hk q' hc hc'
      · rcases hof j' blk' h' with ⟨g1', g2'⟩ | ⟨hj', q'⟩
        · subst g2'; rw [g1']; exact S.inj j k blk _ c q hk hc hc'
        · exact S.inj j j' blk blk' c q q' hc hc'
    nF := fun j blk c h hc => by
      rcases hof j blk h with ⟨g1, g2⟩ | ⟨hj, q⟩
      · subst g2; exact S.nF k _ c hk hc
      · exact S.nF j blk c q hc
    fresh := fun j h => by
      simp only [upd] at h
      split at h
      · cases h
      · exact S.fresh j h
    stampC := fun j l' s' h => by
      rcases hof j _ h with ⟨_, q⟩ | ⟨hj, q⟩
      · cases q
      · exact S.stampC j l' s' q
    stampR := fun j s' e n α d f l' h => by
      rcases hof j _ h with ⟨_, q⟩ | ⟨hj, q⟩
      · cases q
      · exact S.stampR j s' e n α d f l' q
    stampO := fun j x h => by
      rcases hof j _ h with ⟨g1, _⟩ | ⟨hj, q⟩
      · rw [g1]; exact S.stampO k _ hk
      · exact S.stampO j x q
    df := fun d hd => by
      obtain ⟨D, rfl, q1, q2, q3⟩ := S.df d hd
      exact ⟨D, rfl, q1, q2, (putD_other (fun e => by subst e; rw [q3] at h2; cases h2)).trans q3⟩
    dn := S.dn
    kd := ⟨by rw [putD_size]; exact S.kd.size, fun j x hj => by
        have := S.kd.dfr j x hj
        exact (putD_other (fun e => by subst e; rw [this] at h2; cases h2)).trans this, fun j rec hj => by
        obtain ⟨rec', hr⟩ := S.kd.lps j rec hj
        exact ⟨rec', (putD_other (fun e => by subst e; rw [hr] at h2; cases h2)).trans hr⟩⟩
    kF := S.kF
    rd := fun j hj => by
      obtain ⟨rec', hr⟩ := S.rd j hj
      exact ⟨rec', (putD_other (fun e => by subst e; rw [hr] at h2; cases h2)).trans hr⟩ }
theorem Sat.setI (S : Sat G tm mem E a w) {k b : Nat} {x : ByteArray} {p : Nat} (hk : mem k = some (.oth (.si b x p))) (p' : Nat) :
    Sat G tm (upd mem k (some (.oth (.si b x p')))) E a (w.putObj b (.stringIter x p')) := by
  obtain ⟨h1, h2⟩ := S.memv k _ hk
  have hlt : b < w.heap.size := (Array.getElem?_eq_some_iff.1 h2).1
  have hlF : ¬ E.F b := S.nF k _ b hk rfl
  have hFs : ∀ c, E.F c → (w.putObj b (.stringIter x p')).heap[c]? = w.heap[c]? := fun c hc => putD_other (fun e => hlF (e ▸ hc))
  have hof : ∀ j blk, upd mem k (some (Blk.oth (.si b x p'))) j = some blk → (j = k ∧ blk = .oth (.si b x p')) ∨ (j ≠ k ∧ mem j = some blk) := fun j blk h => by
    simp only [upd] at h
    split at h
    · rename_i he; cases h; exact .inl ⟨he, rfl⟩
    · rename_i he; exact .inr ⟨he, h⟩
  exact {
    ext := ⟨S.ext.os, S.ext.tape, S.ext.output, by rw [putD_size]; exact S.ext.size, fun i hi => (putD_other (by omega)).trans (S.ext.block i hi)⟩
    fz := fun c hc => by rw [putD_size]; exact S.fz c hc
    tmv := fun t => sat_mono (Env.le.refl E) hFs _ _ (S.tmv t)
    sz := S.sz
    memv := fun j blk h => by
      rcases hof j blk h with ⟨rfl, rfl⟩ | ⟨hj, q⟩
      · exact ⟨h1, World.putObj_heap_same hlt⟩
      · refine blkSat_mono (Env.le.refl E) hFs blk (fun c hc => putD_other (fun e => hj ?_)) (S.memv j blk q)
        exact S.inj j k blk _ b q hk (e ▸ hc) rfl
    inj := fun j j' blk blk' c h h' hc hc' => by
      rcases hof j blk h with ⟨g1, g2⟩ | ⟨hj, q⟩
      · rcases hof j' blk' h' with ⟨g1', g2'⟩ | ⟨hj', q'⟩
        · rw [g1, g1']
        · subst g2; rw [g1]; exact S.inj k j' _ blk' c hk q' hc hc'
      · rcases hof j' blk' h' with ⟨g1', g2'⟩ | ⟨hj', q'⟩
        · subst g2'; rw [g1']; exact S.inj j k blk _ c q hk hc hc'
        · exact S.inj j j' blk blk' c q q' hc hc'
    nF := fun j blk c h hc => by
      rcases hof j blk h with ⟨g1, g2⟩ | ⟨hj, q⟩
      · subst g2; exact S.nF k _ c hk hc
      · exact S.nF j blk c q hc
    fresh := fun j h => by
      simp only [upd] at h
      split at h
      · cases h
      · exact S.fresh j h
    stampC := fun j l' s' h => by
      rcases hof j _ h with ⟨_, q⟩ | ⟨hj, q⟩
      · cases q
      · exact S.stampC j l' s' q
    stampR := fun j s' e n α d f l' h => by
      rcases hof j _ h with ⟨_, q⟩ | ⟨hj, q⟩
      · cases q
      · exact S.stampR j s' e n α d f l' q
    stampO := fun j x h => by
      rcases hof j _ h with ⟨g1, _⟩ | ⟨hj, q⟩
      · rw [g1]; exact S.stampO k _ hk
      · exact S.stampO j x q
    df := fun d hd => by
      obtain ⟨D, rfl, q1, q2, q3⟩ := S.df d hd
      exact ⟨D, rfl, q1, q2, (putD_other (fun e => by subst e; rw [q3] at h2; cases h2)).trans q3⟩
    dn := S.dn
    kd := ⟨by rw [putD_size]; exact S.kd.size, fun j x hj => by
        have := S.kd.dfr j x hj
        exact (putD_other (fun e => by subst e; rw [this] at h2; cases h2)).trans this, fun j rec hj => by
        obtain ⟨rec', hr⟩ := S.kd.lps j rec hj
        exact ⟨rec', (putD_other (fun e => by subst e; rw [hr] at h2; cases h2)).trans hr⟩⟩
    kF := S.kF
    rd := fun j hj => by
      obtain ⟨rec', hr⟩ := S.rd j hj
      exact ⟨rec', (putD_other (fun e => by subst e; rw [hr] at h2; cases h2)).trans hr⟩ }
theorem ok1_mk (S : Sat G tm mem E a w) {nx T kd : Nat} (hnx : mem nx = none) (ho : o.op = .makeMap T none) :
    Ok1 P r nf G tm mem E a w o (.v (.map (some w.heap.size))) (some (nx, .oth (.mp w.heap.size kd fun _ => none))) := fun K Q hK => by
  have hbel : Below w.heap.size w (w.alloc (.map #[] 0)) := (Below.refl _ w).alloc (Nat.le_refl _) _
  have hfr := S.fresh nx hnx
  have hlt : ∀ k blk b, mem k = some blk → blkLoc E k blk = some b → b < w.heap.size := fun k blk b hk hb => (blkLoc_lt blk (S.memv k blk hk) b hb).2
  have hw0 : G.w0.heap.size ≤ w.heap.size := S.ext.size
  have step := S.step nx (.oth (.mp w.heap.size kd fun _ => none)) E (w.alloc (.map #[] 0)) (Env.le.refl E) (fun b hb => hbel.block b (S.fz b hb).1) (keeps_grow hbel) (S.ext.trans (hbel.mono hw0))
    (fun b hb => ⟨Nat.lt_of_lt_of_le (S.fz b hb).1 hbel.size, (S.fz b hb).2⟩) (fun k _ => ⟨rfl, fun _ => rfl⟩)
    (fun k blk b hk hkm hb => ⟨hbel.block b (hlt k blk b hkm hb), S.nF k blk b hkm hb⟩)
    ⟨hw0, #[], 0, World.alloc_heap_new w _, mapIs_nil kd⟩
    (fun b hb => by
      cases hb
      exact ⟨fun hF => absurd (S.fz _ hF).1 (by omega), fun k blk _ hkm hb' => absurd (hlt k blk _ hkm hb') (by omega)⟩)
    (fun l' s' hh => by cases hh) (fun s' e n α d f l' hh => by cases hh) (fun y hy => hfr)
  refine exec_val (v := .map (some w.heap.size)) (w' := w.alloc (.map #[] 0)) (by simp [ho]) (by simp [execOp, ho, run_makeMap]) (hK E _ _ (Env.le.refl E) step (by simp only [sat]))
theorem ok1_up (S : Sat G tm mem E a w) {j b T kd : Nat} {g : Value → Option Value} {m k x : Operand} {kv xv z : Value} (hj : mem j = some (.oth (.mp b kd g))) (hT : mapB P T = some (kd, z)) (ho : o.op = .mapUpdate T m k x ∨ o.op = .insert T m k x)
    (hm : a.eval m = .map (some b)) (hk : a.eval k = kv) (hok : okK kd kv) (hx : a.eval x = xv) : Ok1 P r nf G tm mem E a w o (.v undef) (some (j, .oth (.mp b kd (updG g kv xv)))) := fun K Q hK => by
  obtain ⟨kt, et, i, q1, q2, q3, q4⟩ := mapB_some hT
  obtain ⟨h1, hs⟩ := S.memv j _ hj
  obtain ⟨es, cl, h2, h3⟩ := run_update (P := P) q1 q2 hs hok xv
  refine exec_skip (w' := w.putObj b (.map es cl)) (by rcases ho with ho | ho <;> simp [ho]) ?_ (hK E _ _ (Env.le.refl E) (S.setM hj h3) (by simp only [sat]))
  rcases ho with ho | ho <;> simp [execOp, ho, hm, hk, hx, h2]
theorem ok1_lk (S : Sat G tm mem E a w) {j b T kd : Nat} {g : Value → Option Value} {m k : Operand} {kv z : Value} {ok : Bool} (hj : mem j = some (.oth (.mp b kd g))) (hT : mapB P T = some (kd, z)) (ho : o.op = .lookup T m k ok)
    (hm : a.eval m = .map (some b)) (hk : a.eval k = kv) (hok : okK kd kv) : Ok1 P r nf G tm mem E a w o (outM ok z g kv) none := by
  obtain ⟨kt, et, i, q1, q2, q3, q4⟩ := mapB_some hT
  obtain ⟨h1, hs⟩ := S.memv j _ hj
  refine ok1_pure S (by simp [ho]) ?_ (outM_sat ok z g kv)
  simp [execOp, ho, hm, hk, run_lookup (P := P) q1 q2 q3 q4 hs hok ok]
theorem outN_sat {E : Env} {w : World} (x : ByteArray) (p : Nat) : sat E w (outN x p) (if p < x.size then .tuple #[.bool true, goInt p, .int .i32 (Utf8.decode x p).1] else .tuple #[.bool false]) := by
  unfold outN
  split
  · simp only [sat, satT]
    exact ⟨[.bool true, goInt p, .int .i32 (Utf8.decode x p).1], rfl, .bool true, _, rfl, rfl, goInt p, _, rfl, rfl, _, _, rfl, rfl, rfl⟩
  · simp only [sat, satT]
    exact ⟨[.bool false], rfl, .bool false, _, rfl, rfl, rfl⟩
theorem ok1_rg (S : Sat G tm mem E a w) {nx T : Nat} {x : Operand} {v : ByteArray} (hnx : mem nx = none) (hT : P.underlying T = some .string) (ho : o.op = .range T x) (hx : a.eval x = .string v) :
    Ok1 P r nf G tm mem E a w o (.v (.pointer (some ⟨w.heap.size, 0, none⟩))) (some (nx, .oth (.si w.heap.size v 0))) := fun K Q hK => by
  have hbel : Below w.heap.size w (w.alloc (.stringIter v 0)) := (Below.refl _ w).alloc (Nat.le_refl _) _
  have hfr := S.fresh nx hnx
  have hlt : ∀ k blk b, mem k = some blk → blkLoc E k blk = some b → b < w.heap.size := fun k blk b hk hb => (blkLoc_lt blk (S.memv k blk hk) b hb).2
  have hw0 : G.w0.heap.size ≤ w.heap.size := S.ext.size
  have step := S.step nx (.oth (.si w.heap.size v 0)) E (w.alloc (.stringIter v 0)) (Env.le.refl E) (fun b hb => hbel.block b (S.fz b hb).1) (keeps_grow hbel) (S.ext.trans (hbel.mono hw0))
    (fun b hb => ⟨Nat.lt_of_lt_of_le (S.fz b hb).1 hbel.size, (S.fz b hb).2⟩) (fun k _ => ⟨rfl, fun _ => rfl⟩)
    (fun k blk b hk hkm hb => ⟨hbel.block b (hlt k blk b hkm hb), S.nF k blk b hkm hb⟩)
    ⟨hw0, World.alloc_heap_new w _⟩
    (fun b hb => by
      cases hb
      exact ⟨fun hF => absurd (S.fz _ hF).1 (by omega), fun k blk _ hkm hb' => absurd (hlt k blk _ hkm hb') (by omega)⟩)
    (fun l' s' hh => by cases hh) (fun s' e n α d f l' hh => by cases hh) (fun y hy => hfr)
  refine exec_val (v := .pointer (some ⟨w.heap.size, 0, none⟩)) (w' := w.alloc (.stringIter v 0)) (by simp [ho]) ?_ (hK E _ _ (Env.le.refl E) step (by simp only [sat]))
  simp [execOp, ho, hx, Instr.range, run_underlying hT]
theorem ok1_nx (S : Sat G tm mem E a w) {j b p : Nat} {v : ByteArray} {x : Operand} (hj : mem j = some (.oth (.si b v p))) (ho : o.op = .next x true) (hx : a.eval x = .pointer (some ⟨b, 0, none⟩)) :
    Ok1 P r nf G tm mem E a w o (outN v p) (some (j, .oth (.si b v (advN v p)))) := fun K Q hK => by
  obtain ⟨h1, h2⟩ := S.memv j _ hj
  have hg : (getObj b).run P w = .ok (.stringIter v p) w := by simp [getObj, Sem.run, h2]
  by_cases hp : p < v.size
  · have hs : ∀ ob, (setObj b ob).run P w = .ok () (w.putObj b ob) := fun ob => by simp [setObj, Sem.run, h2, World.putObj]
    refine exec_val (v := .tuple #[.bool true, goInt p, .int .i32 (Utf8.decode v p).1]) (w' := w.putObj b (.stringIter v (p + (Utf8.decode v p).2))) (by simp [ho]) ?_ (hK E _ _ (Env.le.refl E) ?_ ?_)
    · simp [execOp, ho, hx, Instr.next, hg, hp, hs]
    · have := S.setI hj (p + (Utf8.decode v p).2)
      rwa [show advN v p = p + (Utf8.decode v p).2 by unfold advN; rw [if_pos hp]]
    · have := outN_sat (E := E) (w := w.putObj b (.stringIter v (p + (Utf8.decode v p).2))) v p
      rwa [if_pos hp] at this
  · refine exec_val (v := .tuple #[.bool false]) (w' := w) (by simp [ho]) ?_ (hK E _ _ (Env.le.refl E) ?_ ?_)
    · simp [execOp, ho, hx, Instr.next, hg, hp]
    · rw [show advN v p = p by unfold advN; rw [if_neg hp]]
      have e : upd mem j (some (Blk.oth (.si b v p))) = mem := by
        funext k
        simp only [upd]
        split
        · rename_i e; rw [e, hj]
        · rfl
      show Sat G tm (upd mem j (some (Blk.oth (.si b v p)))) E a w
      rw [e]; exact S
    · have := outN_sat (E := E) (w := w) v p
      rwa [if_neg hp] at this
end
section
variable {P : Program} {r : Option Nat} {nf : Nat} {G : Gl} {tm : Nat → AV} {mem : Nat → Option Blk} {E : Env} {a : Act} {w : World} {o : Oper}
theorem ok1_isn (S : Sat G tm mem E a w) {neg : Bool} {t t' el n : Nat} {x : Operand} {α : Type} {d : α} {f : α → List AV} {l : List α} (ht : P.underlying t = some (.slice el))
    (ho : o.op = .binOp (if neg then .neq else .eql) t x (.const (.slice none 0 0)) t') (hx : sat E w (.sl n d f l) (a.eval x)) : ∃ b : Bool, (0 < l.length → b = neg) ∧ Ok1 P r nf G tm mem E a w o (.v (.bool b)) none := by
  have hd : ∀ c, o.op ≠ .defer c := by simp [ho]
  have hy : a.eval (.const (.slice none 0 0)) = .slice none 0 0 := rfl
  simp only [sat, fsat] at hx
  obtain ⟨ad, cap, h1, _, _, h2⟩ := hx
  cases ad with
  | none =>
    have hl : l = [] := by
      rcases h2 with h2 | ⟨b, q, h3, _⟩
      · exact h2
      · cases h3
    have he : ∀ (d : Nat), (Op.equalIn (d + 1) t (.slice none l.length cap) (.slice none 0 0)).run P w = .ok true w := fun d => by
      simp only [Op.equalIn, Sem.run_bind, run_underlying ht, Result.andThen_ok]; rfl
    have he' : (Op.equal t (.slice none l.length cap) (.slice none 0 0)).run P w = .ok true w := he 9999
    refine ⟨!neg, fun h => by rw [hl] at h; simp at h, ok1_pure S hd (v := .bool (!neg)) ?_ rfl⟩
    cases neg
    · simp only [Bool.false_eq_true, if_false] at ho
      simp [execOp, ho, h1, hy, eqGuard, Go.binOp, Sem.run_bind, he']
    · simp only [if_true] at ho
      simp [execOp, ho, h1, hy, eqGuard, Go.binOp, Sem.run_bind, he']
  | some ad =>
    have he : ∀ (d : Nat), (Op.equalIn (d + 1) t (.slice (some ad) l.length cap) (.slice none 0 0)).run P w = .ok false w := fun d => by
      simp only [Op.equalIn, Sem.run_bind, run_underlying ht, Result.andThen_ok]; rfl
    have he' : (Op.equal t (.slice (some ad) l.length cap) (.slice none 0 0)).run P w = .ok false w := he 9999
    refine ⟨neg, fun _ => rfl, ok1_pure S hd (v := .bool neg) ?_ rfl⟩
    cases neg
    · simp only [Bool.false_eq_true, if_false] at ho
      simp [execOp, ho, h1, hy, eqGuard, Go.binOp, Sem.run_bind, he']
    · simp only [if_true] at ho
      simp [execOp, ho, h1, hy, eqGuard, Go.binOp, Sem.run_bind, he']
end
def SpM (P : Program) (ro : RO) (s : S) (K : S → Prop) : Prop :=
  ∃ p, pathOf s.tm ro.gp = some p ∧ underAll p s.tm ro.op.uops ∧ match ro.op with
    | .mkm T kd => p = [] ∧ ∀ b, K (s.app ro.dst [] (.v (.map (some b))) (some (s.nx, .oth (.mp b kd fun _ => none))))
    | .mup T kd m k x => p = [] ∧ ∃ j b g kv xv, strip (ev s.tm m) = .v (.map (some b)) ∧ lm s.mem j = some (.oth (.mp b kd g)) ∧ keyV (strip (ev s.tm k)) = some kv ∧ okK kd kv ∧ strip (ev s.tm x) = .v xv ∧
        K (s.app ro.dst [] (.v undef) (some (j, .oth (.mp b kd (updG g kv xv)))))
    | .mlk T kd z m k ok => ∃ j b g kv, strip (ev s.tm m) = .v (.map (some b)) ∧ lm s.mem j = some (.oth (.mp b kd g)) ∧ keyV (strip (ev s.tm k)) = some kv ∧ (pc p → okK kd kv) ∧ K (s.app ro.dst p (outM ok z g kv) none)
    | .rgs x => p = [] ∧ ∃ v, strip (ev s.tm x) = .v (.string v) ∧ ∀ b, K (s.app ro.dst [] (.v (.pointer (some ⟨b, 0, none⟩))) (some (s.nx, .oth (.si b v 0))))
    | .nxs x => p = [] ∧ ∃ j b v q, strip (ev s.tm x) = .v (.pointer (some ⟨b, 0, none⟩)) ∧ lm s.mem j = some (.oth (.si b v q)) ∧ K (s.app ro.dst [] (outN v q) (some (j, .oth (.si b v (advN v q)))))
    | .isn neg x => ∃ (n : Nat) (α : Type) (d : α) (f : α → List AV) (l : List α), strip (ev s.tm x) = .sl n d f l ∧ ∀ b : Bool, (0 < l.length → b = neg) → K (s.app ro.dst p (.v (.bool b)) none)
    | _ => False
section
variable {P : Program} {r : Option Nat} {nf N : Nat} {fz : List Nat} {G : Gl} {ops : Array Oper} {rl : List RO} {E : Env} {a : Act} {w : World} {o : Oper}
theorem trR_mkm {f : Bool} {op : Op} {T kd : Nat} (h : trR P f op = some (.mkm T kd)) : op = .makeMap T none := by
  unfold trR at h
  simp only [Option.some.injEq] at h
  split at h
  · rename_i r1 h1
    subst h
    unfold trR0 at h1
    repeat' (first | (split at h1) | (simp only [Option.some.injEq, reduceCtorEq, R.mkm.injEq] at h1; done))
    all_goals first
      | (simp only [Option.some.injEq, reduceCtorEq] at h1; done)
      | (simp only [Option.some.injEq, R.mkm.injEq] at h1; obtain ⟨rfl, _⟩ := h1; rfl)
  · cases h
theorem trR_mup {f : Bool} {op : Op} {T kd : Nat} {m k x : Operand} (h : trR P f op = some (.mup T kd m k x)) : ∃ z, mapB P T = some (kd, z) ∧ (op = .mapUpdate T m k x ∨ op = .insert T m k x) := by
  unfold trR at h
  simp only [Option.some.injEq] at h
  split at h
  · rename_i r1 h1
    subst h
    unfold trR0 at h1
    repeat' (first | (split at h1) | (simp only [Option.some.injEq, reduceCtorEq, R.mup.injEq] at h1; done))
    all_goals first
      | (simp only [Option.some.injEq, reduceCtorEq] at h1; done)
      | (simp only [Option.some.injEq, R.mup.injEq] at h1; obtain ⟨rfl, rfl, rfl, rfl, rfl⟩ := h1; first | exact ⟨_, by assumption, .inl rfl⟩ | exact ⟨_, by assumption, .inr rfl⟩)
  · cases h
theorem trR_mlk {f : Bool} {op : Op} {T kd : Nat} {z : Value} {m k : Operand} {ok : Bool} (h : trR P f op = some (.mlk T kd z m k ok)) : mapB P T = some (kd, z) ∧ op = .lookup T m k ok := by
  unfold trR at h
  simp only [Option.some.injEq] at h
  split at h
  · rename_i r1 h1
    subst h
    unfold trR0 at h1
    repeat' (first | (split at h1) | (simp only [Option.some.injEq, reduceCtorEq, R.mlk.injEq] at h1; done))
    all_goals first
      | (simp only [Option.some.injEq, reduceCtorEq] at h1; done)
      | (simp only [Option.some.injEq, R.mlk.injEq] at h1; obtain ⟨rfl, rfl, rfl, rfl, rfl, rfl⟩ := h1; exact ⟨by assumption, rfl⟩)
  · cases h
theorem trR_rgs {f : Bool} {op : Op} {x : Operand} (h : trR P f op = some (.rgs x)) : ∃ T, P.underlying T = some .string ∧ op = .range T x := by
  unfold trR at h
  simp only [Option.some.injEq] at h
  split at h
  · rename_i r1 h1
    subst h
    unfold trR0 at h1
    repeat' (first | (split at h1) | (simp only [Option.some.injEq, reduceCtorEq, R.rgs.injEq] at h1; done))
    all_goals first
      | (simp only [Option.some.injEq, reduceCtorEq] at h1; done)
      | (simp only [Option.some.injEq, R.rgs.injEq] at h1; obtain rfl := h1; exact ⟨_, by assumption, rfl⟩)
  · cases h
theorem trR_nxs {f : Bool} {op : Op} {x : Operand} (h : trR P f op = some (.nxs x)) : op = .next x true := by
  unfold trR at h
  simp only [Option.some.injEq] at h
  split at h
  · rename_i r1 h1
    subst h
    unfold trR0 at h1
    repeat' (first | (split at h1) | (simp only [Option.some.injEq, reduceCtorEq, R.nxs.injEq] at h1; done))
    all_goals first
      | (simp only [Option.some.injEq, reduceCtorEq] at h1; done)
      | (simp only [Option.some.injEq, R.nxs.injEq] at h1; obtain rfl := h1; rfl)
  · cases h
theorem trR_isn {f : Bool} {op : Op} {neg : Bool} {x : Operand} (h : trR P f op = some (.isn neg x)) : ∃ t el t', P.underlying t = some (.slice el) ∧ op = .binOp (if neg then .neq else .eql) t x (.const (.slice none 0 0)) t' := by
  unfold trR at h
  simp only [Option.some.injEq] at h
  split at h
  · rename_i r1 h1
    subst h
    unfold trR0 at h1
    repeat' (first | (split at h1) | (simp only [Option.some.injEq, reduceCtorEq, R.isn.injEq] at h1; done))
    all_goals first
      | (simp only [Option.some.injEq, reduceCtorEq] at h1; done)
      | (simp only [Option.some.injEq, R.isn.injEq] at h1; obtain ⟨rfl, rfl⟩ := h1; exact ⟨_, _, _, by assumption, rfl⟩)
  · cases h
theorem there_of {s : S} (h : ∀ k, s.nx ≤ k → lm s.mem k = none) {j : Nat} {b : Blk} (hj : lm s.mem j = some b) : there s j := by
  refine ⟨?_, (hasM_iff _ _).2 (by rw [hj]; simp)⟩
  rcases Nat.lt_or_ge j s.nx with q | q
  · exact q
  · rw [h j q] at hj; cases hj
theorem under_strip {x : AV} {y : Value} {p : Path} (hu : under p x) (hp : pc p) (hs : sat E w x y) : sat E w (strip x) y := by
  cases x with
  | gd q a =>
    simp only [under] at hu
    simp only [sat] at hs
    exact hs.1 (pc_covers hp hu)
  | _ => exact hs
theorem spm_step (hG : G.N = N) {ro : RO} {s : S} {K : S → Prop} (h2 : TrO P N fz ops o ro) (hS : SatS G s E a w) (hsp : SpM P ro s K) (Kc : Act → World → Prop) (Q : Exit → Act → World → Prop) (hK : ∀ s' E' a' w', K s' → SatS G s' E' a' w' → Kc a' w') :
    if Region.wanted o (yielded ops a.tmps) then o.wpIn (W1 r) nf P a w Kc Q else (∀ f, o.about P w a.eval = some f → (W1 r).fn f) ∧ Kc (a.put o.dst undef) w := by
  obtain ⟨p, hp, hu, hx⟩ := hsp
  have hslots : ∀ x, sat E w (ev s.tm x) (a.eval x) := fun x => ev_sat hS.st x (fun t _ => rfl)
  obtain ⟨f0, hop⟩ := h2.op
  have fin : ∀ (out : AV) (u : Option (Nat × Blk)), okU p s u → (pc p → Ok1 P r nf G (lk s.tm) (lm s.mem) E a w o out u) → K (s.app ro.dst p out u) → (if Region.wanted o (yielded ops a.tmps) then o.wpIn (W1 r) nf P a w Kc Q else (∀ f, o.about P w a.eval = some f → (W1 r).fn f) ∧ Kc (a.put o.dst undef) w) := fun out u hok h1 hk => by
    have hG1 : GOk P r nf G (lk s.tm) (lm s.mem) E a w ops o (gdd p out) u := gok_of hS.st h2.gd (by rw [← pathOf_eq]; exact hp) (fun g b hg => hslots _) hok h1
    refine hG1 Kc Q (fun E' w' v h3 h4 h5 => ?_)
    have hS' := satS_app (dst := o.dst) (p := p) hS.nx h4 h5 hok (fun d hd => by rw [hG]; exact h2.lt d hd)
    rw [h2.dst] at hk
    exact hK _ E' _ w' hk hS'
  cases hro : ro.op <;> rw [hro] at hx hop hu <;> (try exact hx.elim)
  · rename_i neg x
    obtain ⟨n, α, d, f, l, e1, hk⟩ := hx
    obtain ⟨t, el, t', q1, q2⟩ := trR_isn hop
    simp only [R.uops, R.opds, underAll, and_true] at hu
    by_cases hpc : pc p
    · have s1 := under_strip hu hpc (hslots x)
      rw [e1] at s1
      obtain ⟨b, hb, h3⟩ := ok1_isn (r := r) (nf := nf) hS.st q1 q2 s1
      exact fin (.v (.bool b)) none trivial (fun _ => h3) (hk b hb)
    · exact fin (.v (.bool neg)) none trivial (fun h => absurd h hpc) (hk neg (fun _ => rfl))
  · rename_i T kd
    obtain ⟨rfl, hk⟩ := hx
    exact fin (.v (.map (some w.heap.size))) (some (s.nx, .oth (.mp w.heap.size kd fun _ => none))) ⟨rfl, .inl rfl⟩ (fun _ => ok1_mk hS.st (hS.nx _ (Nat.le_refl _)) (trR_mkm hop)) (hk w.heap.size)
  · rename_i T kd m k x
    obtain ⟨rfl, j, b, g, kv, xv, e1, e2, e3, e4, e5, hk⟩ := hx
    obtain ⟨z, q1, q2⟩ := trR_mup hop
    simp only [R.uops, R.opds, underAll, and_true] at hu
    have s1 := under_strip hu.1 (trivial : pc []) (hslots m)
    have s2 := under_strip hu.2.1 (trivial : pc []) (hslots k)
    have s3 := under_strip hu.2.2 (trivial : pc []) (hslots x)
    rw [e1] at s1
    rw [e5] at s3
    simp only [sat] at s1 s3
    exact fin (.v undef) (some (j, .oth (.mp b kd (updG g kv xv)))) ⟨rfl, .inr (there_of hS.nx e2)⟩ (fun _ => ok1_up hS.st e2 q1 q2 s1 (keyV_sat e3 s2) e4 s3) hk
  · rename_i T kd z m k ok
    obtain ⟨j, b, g, kv, e1, e2, e3, e4, hk⟩ := hx
    obtain ⟨q1, q2⟩ := trR_mlk hop
    simp only [R.uops, R.opds, underAll, and_true] at hu
    refine fin (outM ok z g kv) none trivial (fun hpc => ?_) hk
    have s1 := under_strip hu.1 hpc (hslots m)
    have s2 := under_strip hu.2 hpc (hslots k)
    rw [e1] at s1
    simp only [sat] at s1
    exact ok1_lk hS.st e2 q1 q2 s1 (keyV_sat e3 s2) (e4 hpc)
  · rename_i x
    obtain ⟨rfl, v, e1, hk⟩ := hx
    obtain ⟨T, q1, q2⟩ := trR_rgs hop
    simp only [R.uops, R.opds, underAll, and_true] at hu
    have s1 := under_strip hu (trivial : pc []) (hslots x)
    rw [e1] at s1
    simp only [sat] at s1
    exact fin (.v (.pointer (some ⟨w.heap.size, 0, none⟩))) (some (s.nx, .oth (.si w.heap.size v 0))) ⟨rfl, .inl rfl⟩ (fun _ => ok1_rg hS.st (hS.nx _ (Nat.le_refl _)) q1 q2 s1) (hk w.heap.size)
  · rename_i x
    obtain ⟨rfl, j, b, v, q, e1, e2, hk⟩ := hx
    have q2 := trR_nxs hop
    simp only [R.uops, R.opds, underAll, and_true] at hu
    have s1 := under_strip hu (trivial : pc []) (hslots x)
    rw [e1] at s1
    simp only [sat] at s1
    exact fin (outN v q) (some (j, .oth (.si b v (advN v q)))) ⟨rfl, .inr (there_of hS.nx e2)⟩ (fun _ => ok1_nx hS.st e2 q2 s1) hk
def chainX (P : Program) : List Nat → List RO → S → (S → Prop) → Prop
  | [], rl, s, K => chain P none rl s K
  | n :: ns, rl, s, K => chain P none (rl.take n) s (fun s1 => match rl.drop n with
    | [] => False
    | ro :: rest => SpM P ro s1 (fun s2 => chainX P ns rest s2 K))
theorem inorderX (hG : G.N = N) (hrl : trL P N fz ops ops.toList = some rl) {Q : Exit → Act → World → Prop} {K : S → Prop} (hK : ∀ s E a w, K s → SatS G s E a w → Q .normal a w) :
    ∀ (ns : List Nat) (i m : Nat) (s : S) (E : Env) (a : Act) (w : World), i + m = ops.size → chainX P ns (rl.drop i) s K → SatS G s E a w → wpOpsIn (W1 r) nf P ops Q (List.range' i m) a w
  | [], i, m, s, E, a, w, hi, hc, hS => inorder hG hrl hK m i s E a w hi hc hS
  | n :: ns, i, m, s, E, a, w, hi, hc, hS => by
    obtain ⟨hl, hsp⟩ := trL_spec hrl
    have hlen : rl.length = ops.size := by rw [hl, Array.length_toList]
    simp only [chainX] at hc
    rcases Nat.lt_or_ge n m with hn | hn
    rotate_left
    · -- there is none left
      have hd : (rl.drop i).drop n = [] := List.drop_eq_nil_of_le (by rw [List.length_drop]; omega)
      rw [hd] at hc
      have h1 := inorder_part (r := r) (nf := nf) (Q := Q) (m := 0) (e := i + m) hG hrl (K := fun _ => False) (fun s1 E1 a1 w1 hk hS1 => hk.elim) m i s E a w rfl (by omega) (by
        rw [List.take_of_length_le (by rw [List.length_drop]; omega)] at hc
        rwa [List.take_of_length_le (by rw [List.length_drop]; omega)]) hS
      rwa [Nat.add_zero] at h1
    · have h1 := inorder_part (r := r) (nf := nf) (Q := Q) (m := m - n) (e := i + n) hG hrl (K := fun s1 => match (rl.drop i).drop n with
        | [] => False
        | ro :: rest => SpM P ro s1 (fun s2 => chainX P ns rest s2 K)) (fun s1 E1 a1 w1 hk hS1 => by
          have hil : i + n < ops.size := by omega
          obtain ⟨ro, g1, g2⟩ := hsp (i + n) ops[i + n] (by simp [hil])
          have hdrop : (rl.drop i).drop n = ro :: rl.drop (i + n + 1) := by
            rw [List.drop_drop]
            have hlt : i + n < rl.length := by omega
            rw [List.drop_eq_getElem_cons hlt]
            congr 1
            rw [List.getElem?_eq_getElem hlt] at g1
            simpa using g1
          rw [hdrop] at hk
          simp only [] at hk
          rw [show m - n = (m - n - 1) + 1 by omega, List.range'_succ, wpOpsIn_cons]
          unfold wpOpIn
          simp only [Array.getElem?_eq_getElem hil]
          exact spm_step hG g2 hS1 hk _ Q (fun s' E' a' w' hc' hS' => inorderX hG hrl hK ns (i + n + 1) (m - n - 1) s' E' a' w' (by omega) hc' hS')) n i s E a w rfl (by omega) hc hS
      rwa [show n + (m - n) = m by omega] at h1
end
section
variable {P : Program} {N : Nat} {s : S} {Q : Ex → S → Prop}
theorem W_regX {rl : List RO} {ks : List Nat} (ns : List Nat) (h : chainX P ns rl s (fun s' => Q .n (s'.keep ks))) : W P N (regL ks none rl) s Q := by
  intro hm code fz ht r nf G E x w hG hS
  obtain ⟨id, ops, d, rfl, hrl, hd⟩ := trC_reg ht
  rcases hd with ⟨rfl, hx⟩ | ⟨rfl, hx, hE, hO⟩
  · refine wpIn_region ?_
    rw [List.range_eq_range']
    exact inorderX hG.1 hrl (K := fun s' => Q .n (s'.keep ks)) (fun s E a w hk hS => ⟨_, E, hk, keep_sat ks hS⟩) ns 0 ops.size s E x w (by omega) (by rw [List.drop_zero]; exact h) hS
  · cases hx
end
set_option maxHeartbeats 1000000
section
variable {P : Program} {r : Option Nat} {nf N : Nat} {fz : List Nat} {G : Gl} {ops : Array Oper} {rl : List RO} {ms : List Nat} {s : S} {st : Nat → S} {pp : Nat → Path} {out : Nat → AV} {u : Nat → Option (Nat × Blk)}
end
section
variable {P : Program} {N : Nat} {s : S} {Q : Ex → S → Prop}
end
def FinO (rv : List RV) (T n : Nat) {α : Type} (d : α) (F : α → List AV) (l : List α) : Ex → S → Prop
  | .e _, _ => False
  | _, s => ∃ k st, resOK s rv [.row k st] ∧ lm s.mem k = some (.row st T n d F l)
theorem rowSat_pure {A B : Nat → Prop} {w : World} {n : Nat} {α : Type} {F : α → List AV} {l : List α} {xs : List Value} (hp : ∀ x ∈ l, pureAll (F x) = true) (h : rowSat A w n F l xs) : rowSat B w n F l xs := fun i x hx => by
  obtain ⟨h1, h2⟩ := h i x hx
  exact ⟨h1, fsatL_pure _ _ (hp x (List.mem_iff_getElem?.2 ⟨i, hx⟩)) h2⟩
theorem ownsRow_base {w : World} {B B' e n : Nat} {v : Value} {m : Nat} {xs : List Value} (h : w.ownsRow B e n v m xs) (hb : B' ≤ B) : w.ownsRow B' e n v m xs := by
  obtain ⟨h1, h2⟩ := h
  refine ⟨h1, ?_⟩
  rcases h2 with h2 | ⟨g, cap, cur, q1, q2, q3⟩
  · exact .inl h2
  · exact .inr ⟨g, cap, cur, q1, Nat.le_trans hb q2, q3⟩
theorem FnO_of_W {P : Program} {f : Nat} {c : C} {N np : Nat} {rv : List RV} (hm : P.follows .mixedOrders = true) (ht : Text P f c N np rv) {args : List AV} (hn : args.length = np) {T n : Nat} {α : Type} {d : α} {F : α → List AV} {l : List α}
    (hp : ∀ x ∈ l, pureAll (F x) = true) (h : W P N c (init args) (FinO rv T n d F l)) : FnO P f args T n d F l := by
  refine ⟨?_, hp, fun A w vs hA hargs => ?_⟩
  · obtain ⟨fn, fz, h1, h26, h3, h4, h5⟩ := ht.ex
    cases hb : fn.body with
    | none => rw [hb] at h26; cases h26
    | some code => simp [hasBody, h1, hb, h3]
  have hlen := (fsatT_get hargs).1
  have hq : ∀ e s, FinO rv T n d F l e s → (e = .n ∨ e = .r) ∧ ∃ k st, resOK s rv [.row k st] ∧ lm s.mem k = some (.row st T n d F l) := fun e s q => by
    cases e with
    | e id => exact q.elim
    | n => exact ⟨.inl rfl, q⟩
    | r => exact ⟨.inr rfl, q⟩
  refine calls_of_W hm ht h (fun e s q => ⟨(hq e s q).1, by obtain ⟨_, k, st, h1, _⟩ := hq e s q; exact ⟨_, h1⟩⟩) (by omega) (G := ⟨A, w, N, none, w, A⟩) (E := ⟨fun _ => none, fun _ _ => none, A⟩) rfl rfl (fun a hz hv hd => start_sat hA hargs a hz hv hd) _ ?_
  intro e s E' a' w' xs us hQ hr hS h8
  obtain ⟨_, k, st, h1, h2⟩ := hq e s hQ
  obtain rfl := resOK_det hr h1
  simp only [satT, sat] at h8
  obtain ⟨y, ys, rfl, ⟨hd, h3, rfl⟩, rfl⟩ := h8
  obtain ⟨v, zs, h4, h5, h6, h7⟩ := hS.st.memv k _ h2
  rw [h3] at h4
  cases h4
  exact ⟨hd, zs, by simp [valOf], hS.st.ext, h5, h6, rowSat_pure hp h7⟩
theorem Inl_of_FnO {P : Program} {f : Nat} {args raw : List AV} {T n : Nat} {α : Type} {d : α} {F : α → List AV} {l : List α} (hF : FnO P f args T n d F l) {s : S} (ha : raw.map (view (lm s.mem) 4) = args) {K : AV → S → Prop}
    (hK : K (.row s.nx 0) ⟨s.tm, (s.nx, .row 0 T n d F l) :: s.mem, s.nx + 1⟩) : Inl P f raw s K := by
  refine ⟨hF.1, fun G E a w vs hS hT => ?_⟩
  have hvv := viewT_sat hS.st 4 raw vs hT
  rw [ha] at hvv
  refine (hF.2.2 (allF w) w vs (fun b hb => hb) hvv).mono ?_
  rintro e w' ⟨h, xs, rfl, hb, ho, hn, hr⟩
  have hfr := hS.st.fresh s.nx (hS.nx _ (Nat.le_refl _))
  let E' : Env := ⟨E.b, fun k s' => if k = s.nx ∧ s' = 0 then some h else E.h k s', E.F⟩
  have hE : E.le E' := ⟨fun _ _ h => h, fun k s' x hx => by
    by_cases hk : k = s.nx ∧ s' = 0
    · rw [hk.1, hfr.2] at hx; cases hx
    · show (if k = s.nx ∧ s' = 0 then some h else E.h k s') = some x
      rw [if_neg hk]; exact hx, fun _ h => h⟩
  have hloc : ∀ b, blkLoc E' s.nx (.row 0 T n d F l) = some b → w.heap.size ≤ b := fun b hb' => by
    have : (some h).bind (fun h => (hv h).ownBlock) = some b := by
      have e0 : E'.h s.nx 0 = some h := by show (if s.nx = s.nx ∧ 0 = 0 then some h else _) = _; rw [if_pos ⟨rfl, rfl⟩]
      rw [← e0]; exact hb'
    exact (ho.lt b this).1
  refine ⟨_, .row s.nx 0, _, E', rfl, hK, ⟨?_, fun j hj => ?_⟩, ?_⟩
  · have key := hS.st.step s.nx (.row 0 T n d F l) E' w' hE (fun b hb' => hb.block b (hS.st.fz b hb').1) (keeps_grow hb) (hS.st.ext.trans (hb.mono hS.st.ext.size))
      (fun b hb' => ⟨Nat.lt_of_lt_of_le (hS.st.fz b hb').1 hb.size, (hS.st.fz b hb').2⟩)
      (fun k hk => ⟨rfl, fun s' => by show (if k = s.nx ∧ s' = 0 then some h else E.h k s') = _; rw [if_neg (fun q => hk q.1)]⟩)
      (fun k blk b hk hm hl => ⟨hb.block b (blkLoc_lt blk (hS.st.memv k blk hm) b hl).2, hS.st.nF k blk b hm hl⟩)
      ⟨h, xs, by show (if s.nx = s.nx ∧ 0 = 0 then some h else _) = _; rw [if_pos ⟨rfl, rfl⟩], ownsRow_base ho hS.st.ext.size, hn, rowSat_pure hF.2.1 hr⟩
      (fun b hb' => ⟨fun hf => by have := hloc b hb'; have := (hS.st.fz b hf).1; omega, fun k blk hk hm hl => by have := hloc b hb'; have := (blkLoc_lt blk (hS.st.memv k blk hm) b hl).2; omega⟩)
      (fun l s' q => by cases q)
      (fun s' e n' α' d' f' l' q => by
        cases q
        refine ⟨hfr.1, fun s2 hs => ?_⟩
        show (if s.nx = s.nx ∧ s2 = 0 then some h else E.h s.nx s2) = none
        rw [if_neg (by omega)]; exact hfr.2 s2)
    have e1 : lm ((s.nx, Blk.row 0 T n d F l) :: s.mem) = upd (lm s.mem) s.nx (some (.row 0 T n d F l)) := by
      funext j; simp only [lm, upd]
    show Sat G (lk s.tm) (lm ((s.nx, Blk.row 0 T n d F l) :: s.mem)) E' a w'
    rw [e1]
    exact key
  · show lm ((s.nx, Blk.row 0 T n d F l) :: s.mem) j = none
    have hj' : s.nx + 1 ≤ j := hj
    simp only [lm]
    rw [if_neg (by omega)]
    exact hS.nx j (by omega)
  · simp only [sat]
    exact ⟨h, by show (if s.nx = s.nx ∧ 0 = 0 then some h else _) = _; rw [if_pos ⟨rfl, rfl⟩], rfl⟩
theorem fin_of_finO {rv : List RV} {T n : Nat} {α : Type} {d : α} {F : α → List AV} {l : List α} : ∀ e s, FinO rv T n d F l e s → Fin rv (.sl n d F l) e s := fun e s q => by
  have key : ∀ k st, lm s.mem k = some (.row st T n d F l) → pack ([AV.row k st].map (view (lm s.mem) 4)) = .sl n d F l := fun k st h => by
    simp only [List.map_cons, List.map_nil, view, h, if_true, pack]
  cases e with
  | e id => exact q.elim
  | n => obtain ⟨k, st, h1, h2⟩ := q; exact ⟨_, h1, key k st h2⟩
  | r => obtain ⟨k, st, h1, h2⟩ := q; exact ⟨_, h1, key k st h2⟩
def SR.setB : SR → Bool
  | .ok _ _ _ => true
  | .bls _ _ _ _ _ => true
  | .mks _ _ _ _ _ _ => true
  | .app _ _ _ _ _ _ _ _ _ _ _ => true
  | .app0 _ _ _ _ _ _ => true
  | .str _ _ _ _ _ _ _ _ _ _ _ => true
  | _ => false
def SpG (P : Program) (ro : RO) (s : S) (K : S → Prop) : Prop :=
  ∃ p, pathOf s.tm ro.gp = some p ∧ ((pc p ∧ underAll p s.tm ro.op.uops ∧ (stepP s p ro.op).setB = true ∧ chain2 P none (stepP s p ro.op) [] ro.dst [] s K) ∨ (¬ pc p ∧ K (s.app ro.dst [] (.v undef) none)))
section
variable {P : Program} {r : Option Nat} {nf N : Nat} {fz : List Nat} {G : Gl} {tm : Nat → AV} {mem : Nat → Option Blk} {ops : Array Oper} {rl : List RO} {E : Env} {a : Act} {w : World} {o : Oper}
theorem set_sem {x : SR} {dst : Option Nat} {s : S} {K : S → Prop} (hb : x.setB = true) (h : chain2 P none x [] dst [] s K) :
    ∃ out u, okU [] s u ∧ (∀ (r : Option Nat) (nf : Nat) (G : Gl) (tm : Nat → AV) (mem : Nat → Option Blk) (E : Env) (a : Act) (w : World) (o' : Oper), SRsem P r nf G tm mem E a w o' s.nx x → Ok1 P r nf G tm mem E a w o' out u) ∧ K (s.app dst [] out u) := by
  cases x with
  | ok q out u =>
    obtain ⟨h4, h5, h6⟩ := h
    rw [chain_nil] at h6
    exact ⟨out, u, h5, fun r nf G tm mem E a w o' hs => hs (h4 trivial), h6⟩
  | bls q T n len cs =>
    obtain ⟨hp0, hq, α, d, f, l, c1, c2, c3, c4, h6⟩ := h
    rw [chain_nil] at h6
    exact ⟨.row s.nx 0, some (s.nx, .row 0 T n d f l), ⟨rfl, .inl rfl⟩, fun r nf G tm mem E a w o' hs => hs hq α d f l c1 c2 c3 c4, h6⟩
  | mks q T n bytes z len =>
    obtain ⟨hp0, hq, α, d, f, x, c1, c2, c3, c4, h6⟩ := h
    rw [chain_nil] at h6
    exact ⟨.row s.nx 0, some (s.nx, .row 0 T n d f (List.replicate len.toNat x)), ⟨rfl, .inl rfl⟩, fun r nf G tm mem E a w o' hs => hs hq α d f x c1 c2 c3 c4, h6⟩
  | app q k st T n bytes d f l g m =>
    obtain ⟨hp0, hk, hq, xs, c1, c2, c3, h6⟩ := h
    rw [chain_nil] at h6
    exact ⟨.row k (st + 1), some (k, .row (st + 1) T n d f (l ++ xs)), ⟨rfl, .inr hk⟩, fun r nf G tm mem E a w o' hs => hs hq xs c1 c2 c3, h6⟩
  | app0 q T n bytes g m =>
    obtain ⟨hp0, hq, α, d, f, xs, c1, c2, c3, c4, h6⟩ := h
    rw [chain_nil] at h6
    exact ⟨.row s.nx 0, some (s.nx, .row 0 T n d f xs), ⟨rfl, .inl rfl⟩, fun r nf G tm mem E a w o' hs => hs hq α d f xs c1 c2 c3 c4, h6⟩
  | str q k st T n d f l i off cs =>
    obtain ⟨hp0, hk, hq, x, c1, c2, h6⟩ := h
    rw [chain_nil] at h6
    exact ⟨.v undef, some (k, .row st T n d f (l.set i x)), ⟨rfl, .inr hk⟩, fun r nf G tm mem E a w o' hs => hs hq x c1 c2, h6⟩
  | call _ _ _ _ _ => cases hb
  | yld _ _ _ => cases hb
  | sla _ _ _ _ => cases hb
  | no => cases hb
theorem spg_step (hG : G.N = N) {ro : RO} {s : S} {K : S → Prop} (h2 : TrO P N fz ops o ro) (hS : SatS G s E a w) (hsp : SpG P ro s K) (Kc : Act → World → Prop) (Q : Exit → Act → World → Prop) (hK : ∀ s' E' a' w', K s' → SatS G s' E' a' w' → Kc a' w') :
    if Region.wanted o (yielded ops a.tmps) then o.wpIn (W1 r) nf P a w Kc Q else (∀ f, o.about P w a.eval = some f → (W1 r).fn f) ∧ Kc (a.put o.dst undef) w := by
  obtain ⟨p, hp, hcase⟩ := hsp
  have hslots : ∀ x, sat E w (ev s.tm x) (a.eval x) := fun x => ev_sat hS.st x (fun t _ => rfl)
  have hwi := wanted_iff (w := w) (E := E) h2.gd (by rw [← pathOf_eq]; exact hp) (fun g b hg => hslots _)
  rcases hcase with ⟨hpc, hu, hb, hc⟩ | ⟨hpc, hk⟩
  rotate_left
  · rw [if_neg (fun h => hpc (hwi.1 h))]
    refine ⟨fun _ _ => trivial, ?_⟩
    have hS' := satS_app (out := .v undef) (u := none) (v := undef) (dst := o.dst) (p := []) hS.nx hS.st rfl trivial (fun d hd => by rw [hG]; exact h2.lt d hd)
    rw [h2.dst] at hk
    exact hK _ E _ w hk hS'
  obtain ⟨out, u, hok, hsem, hk⟩ := set_sem hb hc
  obtain ⟨f, hop⟩ := h2.op
  have h1 : Ok1 P r nf G (lk s.tm) (lm s.mem) E a w o out u := by
    refine hsem r nf G _ _ E a w o ?_
    rw [stepP_eq]
    exact stepQ_sem hS.st (hS.nx _ (Nat.le_refl _)) hop hpc (fun x _ => hslots x) (by rw [← underAll_eq]; exact hu)
  rw [if_pos (hwi.2 hpc)]
  refine h1 Kc Q (fun E' w' v h3 h4 h5 => ?_)
  have hS' := satS_app (dst := o.dst) (p := []) hS.nx h4 h5 hok (fun d hd => by rw [hG]; exact h2.lt d hd)
  rw [h2.dst] at hk
  exact hK _ E' _ w' hk hS'
def chainG (P : Program) : List Nat → List RO → S → (S → Prop) → Prop
  | [], rl, s, K => chain P none rl s K
  | n :: ns, rl, s, K => chain P none (rl.take n) s (fun s1 => match rl.drop n with
    | [] => False
    | ro :: rest => SpG P ro s1 (fun s2 => chainG P ns rest s2 K))
theorem inorderG (hG : G.N = N) (hrl : trL P N fz ops ops.toList = some rl) {Q : Exit → Act → World → Prop} {K : S → Prop} (hK : ∀ s E a w, K s → SatS G s E a w → Q .normal a w) :
    ∀ (ns : List Nat) (i m : Nat) (s : S) (E : Env) (a : Act) (w : World), i + m = ops.size → chainG P ns (rl.drop i) s K → SatS G s E a w → wpOpsIn (W1 r) nf P ops Q (List.range' i m) a w
  | [], i, m, s, E, a, w, hi, hc, hS => inorder hG hrl hK m i s E a w hi hc hS
  | n :: ns, i, m, s, E, a, w, hi, hc, hS => by
    obtain ⟨hl, hsp⟩ := trL_spec hrl
    have hlen : rl.length = ops.size := by rw [hl, Array.length_toList]
    simp only [chainG] at hc
    rcases Nat.lt_or_ge n m with hn | hn
    rotate_left
    · -- there is none left
      have hd : (rl.drop i).drop n = [] := List.drop_eq_nil_of_le (by rw [List.length_drop]; omega)
      rw [hd] at hc
      have h1 := inorder_part (r := r) (nf := nf) (Q := Q) (m := 0) (e := i + m) hG hrl (K := fun _ => False) (fun s1 E1 a1 w1 hk hS1 => hk.elim) m i s E a w rfl (by omega) (by
        rw [List.take_of_length_le (by rw [List.length_drop]; omega)] at hc
        rwa [List.take_of_length_le (by rw [List.length_drop]; omega)]) hS
      rwa [Nat.add_zero] at h1
    · have h1 := inorder_part (r := r) (nf := nf) (Q := Q) (m := m - n) (e := i + n) hG hrl (K := fun s1 => match (rl.drop i).drop n with
        | [] => False
        | ro :: rest => SpG P ro s1 (fun s2 => chainG P ns rest s2 K)) (fun s1 E1 a1 w1 hk hS1 => by
          have hil : i + n < ops.size := by omega
          obtain ⟨ro, g1, g2⟩ := hsp (i + n) ops[i + n] (by simp [hil])
          have hdrop : (rl.drop i).drop n = ro :: rl.drop (i + n + 1) := by
            rw [List.drop_drop]
            have hlt : i + n < rl.length := by omega
            rw [List.drop_eq_getElem_cons hlt]
            congr 1
            rw [List.getElem?_eq_getElem hlt] at g1
            simpa using g1
          rw [hdrop] at hk
          simp only [] at hk
          rw [show m - n = (m - n - 1) + 1 by omega, List.range'_succ, wpOpsIn_cons]
          unfold wpOpIn
          simp only [Array.getElem?_eq_getElem hil]
          exact spg_step hG g2 hS1 hk _ Q (fun s' E' a' w' hc' hS' => inorderG hG hrl hK ns (i + n + 1) (m - n - 1) s' E' a' w' (by omega) hc' hS')) n i s E a w rfl (by omega) hc hS
      rwa [show n + (m - n) = m by omega] at h1
end
section
variable {P : Program} {N : Nat} {s : S} {Q : Ex → S → Prop}
theorem W_regG {rl : List RO} {ks : List Nat} (ns : List Nat) (h : chainG P ns rl s (fun s' => Q .n (s'.keep ks))) : W P N (regL ks none rl) s Q := by
  intro hm code fz ht r nf G E x w hG hS
  obtain ⟨id, ops, d, rfl, hrl, hd⟩ := trC_reg ht
  rcases hd with ⟨rfl, hx⟩ | ⟨rfl, hx, hE, hO⟩
  · refine wpIn_region ?_
    rw [List.range_eq_range']
    exact inorderG hG.1 hrl (K := fun s' => Q .n (s'.keep ks)) (fun s E a w hk hS => ⟨_, E, hk, keep_sat ks hS⟩) ns 0 ops.size s E x w (by omega) (by rw [List.drop_zero]; exact h) hS
  · cases hx
end
theorem SpG_no {P : Program} {dst : Option Nat} {op : R} {g : Nat} {c w : Bool} {s : S} {K : S → Prop} (hg : lk s.tm g = .v (.bool c)) (hc : (c == w) = false) (h : K (s.app dst [] (.v undef) none)) : SpG P ⟨dst, op, some (g, w)⟩ s K :=
  ⟨[(g, c, w)], by simp only [pathOf, hg], .inr ⟨fun hp => by have := hp.1; subst this; simp at hc, h⟩⟩
theorem SpG_go {P : Program} {dst : Option Nat} {op : R} {g : Nat} {w : Bool} {s : S} {K : S → Prop} (hg : lk s.tm g = .v (.bool w)) (hu : underAll [(g, w, w)] s.tm op.uops) (hb : (stepP s [(g, w, w)] op).setB = true) (h : chain2 P none (stepP s [(g, w, w)] op) [] dst [] s K) : SpG P ⟨dst, op, some (g, w)⟩ s K :=
  ⟨[(g, w, w)], by simp only [pathOf, hg], .inl ⟨⟨rfl, trivial⟩, hu, hb, h⟩⟩
theorem satT_consts {E : Env} {w : World} : ∀ {ys vs : List Value}, satT E w (ys.map .v) vs → vs = ys
  | [], vs, h => h
  | y :: ys, vs, h => by
    simp only [List.map_cons, satT, sat] at h
    obtain ⟨x, xs, rfl, rfl, h⟩ := h
    rw [satT_consts h]
theorem Inl_grow {P : Program} {f : Nat} (hb : hasBody P f = true) {s : S} {k st T n : Nat} {α : Type} {d : α} {F : α → List AV} {l l' : List α} (hk : lm s.mem k = some (.row st T n d F l)) (hn : 0 < n) {ys : List Value}
    (h : ∀ (B : Nat) (Fz : Nat → Prop) (w : World) (hh : Hd) (xs : List Value), w.ownsRow B T n (hv hh) l.length xs → rowSat Fz w n F l xs → Calls P f (hv hh :: ys).toArray w fun e w' => ∃ (h' : Hd) (xs' : List Value), e = .returned (hv h') ∧ w'.ownsRow B T n (hv h') l'.length xs' ∧ w.grownBy w' (hv hh).ownBlock ∧ rowSat Fz w n F l' xs' ∧ ∀ b, (hv h').ownBlock = some b → (hv hh).ownBlock = some b ∨ w.heap.size ≤ b)
    {K : AV → S → Prop} (hK : K (.row k (st + 1)) ⟨s.tm, setm s.mem k (.row (st + 1) T n d F l'), s.nx⟩) : Inl P f (.row k st :: ys.map .v) s K := by
  refine ⟨hb, fun G E a w vs hS hT => ?_⟩
  simp only [satT, sat] at hT
  obtain ⟨y, zs, rfl, ⟨hh, e1, rfl⟩, hT⟩ := hT
  obtain rfl := satT_consts hT
  obtain ⟨v, xs, e2, hown, _, hrow⟩ := hS.st.memv k _ hk
  rw [e1] at e2
  cases e2
  refine (h G.w0.heap.size E.F w hh xs hown hrow).mono ?_
  rintro e w' ⟨h', xs', rfl, hown', hg, hrow', hnew⟩
  have S := hS.st
  obtain ⟨hbk, hlast⟩ := S.stampR k st T n α d F l hk
  have hfresh : E.h k (st + 1) = none := hlast _ (by omega)
  have hwas : ∀ b, (hv hh).ownBlock = some b → blkLoc E k (.row st T n d F l) = some b := fun b hb => by simp only [blkLoc, e1, Option.bind_some]; exact hb
  have hle : E.le (E.addH k (st + 1) h') := ⟨fun _ _ h => h, fun k' s' x hx => by
      by_cases e : k' = k ∧ s' = st + 1
      · rw [e.1, e.2, hfresh] at hx; cases hx
      · simp [Env.addH, e, hx], fun _ h => h⟩
  have hnF : ∀ b, E.F b → (hv hh).ownBlock ≠ some b := fun b hF he => S.nF k _ b hk (hwas b he) hF
  have hlt : ∀ k blk b, lm s.mem k = some blk → blkLoc E k blk = some b → b < w.heap.size := fun k blk b hk hb => (blkLoc_lt blk (S.memv k blk hk) b hb).2
  have hrowge : ∀ b, (hv hh).ownBlock = some b → G.w0.heap.size ≤ b := fun b he => (blkLoc_lt _ (S.memv k _ hk) b (hwas b he)).1
  have hFs : ∀ b, E.F b → w'.heap[b]? = w.heap[b]? := fun b hF => hg.block b (S.fz b hF).1 (fun he => hnF b hF he.symm)
  refine ⟨_, .row k (st + 1), _, E.addH k (st + 1) h', rfl, hK, ⟨?_, fun j hj => ?_⟩, by simp only [sat]; exact ⟨h', by simp [Env.addH], rfl⟩⟩
  · show Sat G (lk s.tm) (lm (setm s.mem k (.row (st + 1) T n d F l'))) _ a w'
    rw [lm_setm]
    refine S.step k (.row (st + 1) T n d F l') (E.addH k (st + 1) h') w' hle hFs (KeepsOthers.of_grownBy hg (fun j o he ho => blkLoc_cells _ rfl (S.memv k _ hk) j (hwas j he) o ho)) ?_ ?_ (fun k' hk => ⟨rfl, fun s' => by simp [Env.addH, hk]⟩) (fun k' blk b hk' hm hb => ⟨?_, S.nF k' blk b hm hb⟩) ?_ ?_ ?_ ?_
    · exact ⟨hg.os.trans S.ext.os, hg.tape.trans S.ext.tape, hg.output.trans S.ext.output, Nat.le_trans S.ext.size hg.size, fun i hi => (hg.block i (Nat.lt_of_lt_of_le hi S.ext.size) (fun he => by have := hrowge i he.symm; omega)).trans (S.ext.block i hi)⟩
    · intro b hF
      exact ⟨Nat.lt_of_lt_of_le (S.fz b hF).1 hg.size, (S.fz b hF).2⟩
    · refine hg.block b (hlt k' blk b hm hb) (fun he => hk' ?_)
      exact S.inj k' k blk _ b hm hk hb (hwas b he.symm)
    · refine ⟨h', xs', by simp [Env.addH], hown', hn, fun i x hx => ?_⟩
      obtain ⟨h1, h2⟩ := hrow' i x hx
      exact ⟨h1, fsatL_mono (fun _ h => h) hFs _ _ h2⟩
    · intro b hb
      have hb' : (hv h').ownBlock = some b := by simpa [blkLoc, Env.addH] using hb
      refine ⟨fun hF => ?_, fun k' blk hk' hm he => ?_⟩
      · rcases hnew b hb' with h1 | h1
        · exact hnF b hF h1
        · exact absurd (S.fz b hF).1 (by omega)
      · rcases hnew b hb' with h1 | h1
        · exact hk' (S.inj k' k blk _ b hm hk he (hwas b h1))
        · exact absurd (hlt k' blk b hm he) (by omega)
    · intro l' s' he; cases he
    · intro s1 e' n' α' d' f' l' he
      cases he
      exact ⟨hbk, fun s' hs => by simp only [Env.addH]; rw [if_neg (by omega)]; exact hlast s' (by omega)⟩
  · have hkn : k < s.nx := by
      rcases Nat.lt_or_ge k s.nx with h1 | h1
      · exact h1
      · rw [hS.nx k h1] at hk; cases hk
    have hj' : s.nx ≤ j := hj
    show lm (setm s.mem k _) j = none
    rw [lm_set_other _ _ (by omega)]
    exact hS.nx j hj'
theorem le_moveC {s : S} (t K K2 : Nat) (ks bs : List Nat) (nx : Nat) (l : List AV) (ht : lk s.tm t = .own K2 0) (hm : lm s.mem K2 = some (.cells l)) (hl : frzAll l = true) (hK : has bs K = false) (hK2 : has bs K2 = false)
    (h1 : okTm bs (ks.map fun t => (t, lk s.tm t)) = true) (h2 : okMem bs s.mem = true) (hn : allLt nx bs = true) (hKn : K < nx) :
    le s ⟨(t, .own K 0) :: ks.map (fun t => (t, lk s.tm t)), (K, .cells l) :: keepM bs s.mem, nx⟩ := by
  intro G E a w hS
  let E' : Env := ⟨fun k => if k = K then E.b K2 else if has bs k then E.b k else none, fun k s' => if has bs k then E.h k s' else none, E.F⟩
  have hne : ∀ k, has bs k = true → k ≠ K := fun k hk e => by rw [e, hK] at hk; cases hk
  have hb : ∀ k, has bs k = true → E'.b k = E.b k := fun k hk => by simp [E', hk, hne k hk]
  have hh : ∀ k, has bs k = true → ∀ s, E'.h k s = E.h k s := fun k hk s => by simp [E', hk]
  have hle : (E.res bs).le E' := {
    b := fun k x hx => by
      simp only [Env.res] at hx
      split at hx
      · rename_i hk; rw [hb k hk]; exact hx
      · cases hx
    h := fun k s x hx => by
      simp only [Env.res] at hx
      split at hx
      · rename_i hk; rw [hh k hk]; exact hx
      · cases hx
    F := fun _ h => h }
  have hres : ∀ (a : AV) (y : Value), onlyB bs a = true → sat E w a y → sat E' w a y := fun a y ho hs => sat_mono hle (fun _ _ => rfl) a y (sat_res a y ho hs)
  have hKh : E'.b K = E.b K2 := by simp [E']
  have hlm : ∀ k blk, lm ((K, Blk.cells l) :: keepM bs s.mem) k = some blk → (k = K ∧ blk = .cells l) ∨ (has bs k = true ∧ lm s.mem k = some blk) := fun k blk hk => by
    simp only [lm] at hk
    split at hk
    · rename_i h; cases hk; exact .inl ⟨h, rfl⟩
    · rw [lm_keepM] at hk
      split at hk
      · rename_i h; exact .inr ⟨h, hk⟩
      · cases hk
  have hrow := hS.st.memv K2 _ hm
  have hloc : blkLoc E' K (.cells l) = blkLoc E K2 (.cells l) := by simp only [blkLoc, hKh]
  refine ⟨E', ⟨?_, fun k hk => ?_⟩⟩
  · exact {
      ext := hS.st.ext
      fz := hS.st.fz
      tmv := fun t' => by
        simp only [lk]
        split
        · rename_i h; subst h
          have := hS.st.tmv t'
          rw [ht] at this
          simp only [sat] at this ⊢
          obtain ⟨x, q1, q2⟩ := this
          exact ⟨x, by rw [hKh]; exact q1, q2⟩
        · refine hres _ _ (okTm_spec h1) ?_
          rcases lk_keep ks (lk s.tm) t' with h | h
          · rw [h]; exact hS.st.tmv t'
          · rw [h]; simp only [sat]
      sz := hS.st.sz
      memv := fun k blk hk => by
        rcases hlm k blk hk with ⟨rfl, rfl⟩ | ⟨hk1, hk2⟩
        · obtain ⟨b, cs, T, q1, q2, q3, q4⟩ := hrow
          exact ⟨b, cs, T, by rw [hKh]; exact q1, q2, q3, satL_mono hle (fun _ _ => rfl) _ _ (satL_res _ _ (onlyL_frz1 bs _ hl) q4)⟩
        have hbs := hS.st.memv k blk hk2
        have ho := okMem_spec h2 hk1 hk2
        cases blk with
        | cells l =>
          obtain ⟨b, cs, T, q1, q2, q3, q4⟩ := hbs
          exact ⟨b, cs, T, by rw [hb k hk1]; exact q1, q2, q3, satL_mono hle (fun _ _ => rfl) _ _ (satL_res _ _ (by simpa only [okBlk] using ho) q4)⟩
        | row s' e n d f l =>
          obtain ⟨v, xs, q1, q2, q3, q4⟩ := hbs
          exact ⟨v, xs, by rw [hh k hk1]; exact q1, q2, q3, q4⟩
        | oth x =>
          cases x with
          | fr vs tm => exact fun t => hres _ _ (okTm_spec ho) (hbs t)
          | lp l rec tm => exact ⟨hbs.1, hbs.2.1, fun t => hres _ _ (okTm_spec ho) (hbs.2.2 t)⟩
          | mp b kd g => exact hbs
          | si b s pos => exact hbs
          | nm k' b => exact (hb k' ho).trans hbs
      inj := fun k k' blk blk' b hk hk' hbl hbl' => by
        rcases hlm k blk hk with ⟨rfl, rfl⟩ | ⟨hk1, hk2⟩
        · rcases hlm k' blk' hk' with ⟨rfl, rfl⟩ | ⟨hk1', hk2'⟩
          · rfl
          · exfalso
            rw [hloc] at hbl
            rw [blkLoc_same (hb k' hk1') (hh k' hk1')] at hbl'
            have := hS.st.inj K2 k' _ blk' b hm hk2' hbl hbl'
            rw [← this, hK2] at hk1'; cases hk1'
        · rcases hlm k' blk' hk' with ⟨rfl, rfl⟩ | ⟨hk1', hk2'⟩
          · exfalso
            rw [hloc] at hbl'
            rw [blkLoc_same (hb k hk1) (hh k hk1)] at hbl
            have := hS.st.inj k K2 blk _ b hk2 hm hbl hbl'
            rw [this, hK2] at hk1; cases hk1
          · rw [blkLoc_same (hb k hk1) (hh k hk1)] at hbl
            rw [blkLoc_same (hb k' hk1') (hh k' hk1')] at hbl'
            exact hS.st.inj k k' blk blk' b hk2 hk2' hbl hbl'
      nF := fun k blk b hk hbl => by
        rcases hlm k blk hk with ⟨rfl, rfl⟩ | ⟨hk1, hk2⟩
        · rw [hloc] at hbl
          exact hS.st.nF K2 _ b hm hbl
        · rw [blkLoc_same (hb k hk1) (hh k hk1)] at hbl
          exact hS.st.nF k blk b hk2 hbl
      fresh := fun k hk => by
        have hkK : k ≠ K := fun e => by
          subst e
          simp [lm] at hk
        have hk' : lm (keepM bs s.mem) k = none := by
          have : lm ((K, Blk.cells l) :: keepM bs s.mem) k = none := hk
          simp only [lm] at this
          rwa [if_neg hkK] at this
        by_cases hx : has bs k = true
        · rw [lm_keepM, if_pos hx] at hk'
          obtain ⟨q1, q2⟩ := hS.st.fresh k hk'
          exact ⟨by rw [hb k hx]; exact q1, fun s => by rw [hh k hx]; exact q2 s⟩
        · exact ⟨by simp [E', hx, hkK], fun s => by simp [E', hx]⟩
      stampC := fun k l s' hk => by
        rcases hlm k _ hk with ⟨rfl, h⟩ | ⟨hk1, hk2⟩
        · simp [E', hK]
        · rw [hh k hk1]; exact hS.st.stampC k l s' hk2
      stampR := fun k s' e n' α' d' f' l' hk => by
        rcases hlm k _ hk with ⟨rfl, h⟩ | ⟨hk1, hk2⟩
        · cases h
        · have := hS.st.stampR k s' e n' α' d' f' l' hk2
          exact ⟨by rw [hb k hk1]; exact this.1, fun s'' hs => by rw [hh k hk1]; exact this.2 s'' hs⟩
      stampO := fun k x hk => by
        rcases hlm k _ hk with ⟨_, h⟩ | ⟨hk1, hk2⟩
        · cases h
        · have := hS.st.stampO k x hk2
          exact ⟨by rw [hb k hk1]; exact this.1, fun s'' => by rw [hh k hk1]; exact this.2 s''⟩
      df := hS.st.df
      dn := hS.st.dn
      kd := hS.st.kd
      kF := hS.st.kF
      rd := hS.st.rd }
  · show lm ((K, Blk.cells l) :: keepM bs s.mem) k = none
    have hk' : nx ≤ k := hk
    simp only [lm]
    rw [if_neg (by omega), lm_keepM]
    split
    · rename_i hx
      have := allLt_spec hn hx; omega
    · rfl
theorem W_seqM {P : Program} {N : Nat} {ks : List Nat} {a b : C} {s : S} {Q : Ex → S → Prop} (M : S → Prop) (h : W P N a s (thenQ (fun s' => ∃ s'', le s' s'' ∧ M s'') Q)) (h2 : ∀ s, M s → W P N b s Q) : W P N (seqL ks a b) s Q := by
  unfold seqL
  exact W_seq_mid M h h2
theorem lm_end {K : Nat} {b : Blk} : ∀ {M : List (Nat × Blk)}, lm M K = none → ∀ k, lm (M ++ [(K, b)]) k = lm ((K, b) :: M) k
  | [], _, k => rfl
  | (s, a) :: M, h, k => by
    simp only [lm] at h
    split at h
    · cases h
    · rename_i hne
      have ih := lm_end (b := b) h k
      simp only [List.cons_append, lm] at ih ⊢
      rw [ih]
      by_cases q : k = K
      · subst q; simp [hne]
      · simp [q]
theorem le_moveE {s : S} (t K K2 : Nat) (ks bs : List Nat) (nx : Nat) (l : List AV) (ht : lk s.tm t = .own K2 0) (hm : lm s.mem K2 = some (.cells l)) (hl : frzAll l = true) (hK : has bs K = false) (hK2 : has bs K2 = false)
    (h1 : okTm bs (ks.map fun t => (t, lk s.tm t)) = true) (h2 : okMem bs s.mem = true) (hn : allLt nx bs = true) (hKn : K < nx) :
    le s ⟨(t, .own K 0) :: ks.map (fun t => (t, lk s.tm t)), keepM bs s.mem ++ [(K, .cells l)], nx⟩ := by
  have h0 : lm (keepM bs s.mem) K = none := by rw [lm_keepM, if_neg (by rw [hK]; simp)]
  refine (le_moveC t K K2 ks bs nx l ht hm hl hK hK2 h1 h2 hn hKn).trans (leS_same (s := ⟨(t, .own K 0) :: ks.map (fun t => (t, lk s.tm t)), (K, .cells l) :: keepM bs s.mem, nx⟩) (keepM bs s.mem ++ [(K, .cells l)]) nx (fun k => lm_end h0 k) (fun k hk => ?_)).le
  rw [lm_end h0]
  simp only [lm]
  rw [if_neg (by omega), lm_keepM]
  split
  · rename_i hx
    have := allLt_spec hn hx; omega
  · rfl
section
variable {P : Program} {N : Nat} {c : C} {s : S} {Q : Ex → S → Prop}
end
structure Ext (nx : Nat) (R : Mem) (nx2 : Nat) (R2 : Mem) : Prop where
  n : nx ≤ nx2
  eq : ∀ j, j < nx → lm R2 j = lm R j
  hi : ∀ j, nx2 ≤ j → lm R2 j = none
theorem Ext.refl {N0 nx : Nat} {R : Mem} (h : Opq N0 R nx) : Ext nx R nx R := ⟨Nat.le_refl _, fun _ _ => rfl, h.hi⟩
theorem Ext.trans {a b c : Nat} {A B C : Mem} (h : Ext a A b B) (k : Ext b B c C) : Ext a A c C :=
  ⟨Nat.le_trans h.n k.n, fun j hj => (k.eq j (Nat.lt_of_lt_of_le hj h.n)).trans (h.eq j hj), k.hi⟩
theorem Ext.opq {N0 nx nx2 : Nat} {R R2 : Mem} (h : Ext nx R nx2 R2) (k : Opq N0 R nx) : Opq N0 R2 nx2 :=
  ⟨Nat.le_trans k.n h.n, fun j hj => (h.eq j (Nat.lt_of_lt_of_le hj k.n)).trans (k.lo j hj), h.hi⟩
theorem Ext.push {a nx b nx2 : Nat} {R R2 : Mem} {g : Blk} (h : Ext a R nx R2) (h1 : nx ≤ b) (h2 : b < nx2) : Ext a R nx2 ((b, g) :: R2) :=
  ⟨by have := h.n; omega, fun j hj => by have := h.n; simp only [lm]; rw [if_neg (by omega)]; exact h.eq j hj, fun j hj => by simp only [lm]; rw [if_neg (by omega)]; exact h.hi j (by omega)⟩
theorem Ext.set {a nx b nx2 : Nat} {R R2 : Mem} {g : Blk} (h : Ext a R nx R2) (h1 : nx ≤ b) (h2 : b < nx2) : Ext a R nx2 (setm R2 b g) :=
  ⟨by have := h.n; omega, fun j hj => by have := h.n; rw [lm_set_other _ _ (by omega)]; exact h.eq j hj, fun j hj => by rw [lm_set_other _ _ (by omega)]; exact h.hi j (by omega)⟩
theorem Ext.up {a nx nx2 : Nat} {R R2 : Mem} (h : Ext a R nx R2) (h1 : nx ≤ nx2) : Ext a R nx2 R2 := ⟨Nat.le_trans h.n h1, h.eq, fun j hj => h.hi j (by omega)⟩
theorem Ext.dn {a a' b : Nat} {A B : Mem} (h : Ext a' A b B) (ha : a ≤ a') : Ext a A b B := ⟨Nat.le_trans ha h.n, fun j hj => h.eq j (Nat.lt_of_lt_of_le hj ha), h.hi⟩
def sameM (m m' : Mem) : Prop := ∀ k, lm m k = lm m' k
theorem sameM.refl (m : Mem) : sameM m m := fun _ => rfl
theorem sameM.trans {a b c : Mem} (h : sameM a b) (k : sameM b c) : sameM a c := fun j => (h j).trans (k j)
theorem sameM.cons {n : Nat} {g : Blk} {a b : Mem} (h : sameM a b) : sameM ((n, g) :: a) ((n, g) :: b) := fun k => by simp only [lm]; rw [h k]
theorem sm_push {N0 n : Nat} {g : Blk} {B R : Mem} (hB : Bas N0 B) (hn : N0 ≤ n) : sameM ((n, g) :: (B ++ R)) (B ++ ((n, g) :: R)) := fun k => by
  rw [lm_back B R _ (hB n hn)]
theorem leS_sameM {s : S} (m : Mem) (nx : Nat) (h : sameM m s.mem) (hn : ∀ k, nx ≤ k → lm m k = none) : leS s ⟨s.tm, m, nx⟩ := leS_same m nx h hn
theorem Inl_sameM {P : Program} {f : Nat} {raw : List AV} {s : S} {K : AV → S → Prop} (m : Mem) (nx : Nat) (h : sameM m s.mem) (hn : ∀ k, nx ≤ k → lm m k = none) (hI : Inl P f raw ⟨s.tm, m, nx⟩ K) : Inl P f raw s K := by
  refine ⟨hI.1, fun G E a w vs hS hT => ?_⟩
  exact hI.2 G E a w vs (leS_sameM m nx h hn G E a w hS) hT
theorem ne_l {k s : Nat} (h : k < s) : (k = s) = False := eq_false (by omega)
theorem ne_r {k s : Nat} (h : s < k) : (k = s) = False := eq_false (by omega)
section
variable {P : Program} {N : Nat}
def FinX (N0 : Nat) (rv : List RV) (nx : Nat) (R : Mem) (K : AV → Mem → Prop) : Ex → S → Prop
  | .e _, _ => False
  | _, s' => ∃ xs B' R2, resOK s' rv xs ∧ sameM (B' ++ R2) s'.mem ∧ Bas N0 B' ∧ Ext nx R s'.nx R2 ∧ K (pack xs) B'
def MidX (N0 : Nat) (tm : List (Nat × AV)) (nx : Nat) (R : Mem) (K : AV → Mem → Prop) (r : AV) (s' : S) : Prop := ∃ B' R2 nx2, Bas N0 B' ∧ Ext nx R nx2 R2 ∧ K r B' ∧ leS s' ⟨tm, B' ++ R2, nx2⟩
end
section
variable {P : Program} {r : Option Nat} {nf N : Nat} {fz : List Nat} {G : Gl} {ops : Array Oper} {rl : List RO} {ms : List Nat}
theorem reg_invJ (hG : G.N = N) (hrl : trL P N fz ops ops.toList = some rl) (hms : ms = masks ops.toList []) (hE : edgeOK 0 ops.toList = true) (St : (Nat → Bool) → S) {Q : Exit → Act → World → Prop}
    (hstep : ∀ (D : Nat → Bool) (i : Nat) ro m, rl[i]? = some ro → ms[i]? = some m → D i = false → (∀ j, tb m j → D j = true) → (∀ i' m', D i' = true → ms[i']? = some m' → ∀ j, tb m' j → D j = true) → chain P none [ro] (St D) (fun s' => le s' (St fun j => if j = i then true else D j)))
    (hend : ∀ D : Nat → Bool, (∀ j, j < rl.length → D j = true) → ∀ E a w, SatS G (St D) E a w → Q .normal a w) :
    ∀ (fuel : Nat) (listed : Array Bool) (E : Env) (a : Act) (w : World), unl listed ≤ fuel → LI ops ms listed → SatS G (St fun j => listed.getD j false) E a w → wpAnyIn (W1 r) nf P .any ops Q fuel listed a w := by
  obtain ⟨hl, hsp⟩ := trL_spec hrl
  have hlen : rl.length = ops.size := by rw [hl, Array.length_toList]
  have fin : ∀ (listed : Array Bool) (E : Env) (a : Act) (w : World), LI ops ms listed → Region.ready .any ops listed = [] → SatS G (St fun j => listed.getD j false) E a w → Q .normal a w := fun listed E a w inv hr hS =>
    hend _ (fun j hj => all_listed hE inv hr j j (Nat.le_refl _) (by omega)) E a w hS
  intro fuel
  induction fuel with
  | zero =>
    intro listed E a w hf inv hS
    exact ⟨ready_nil hf, fin listed E a w inv (ready_nil hf) hS⟩
  | succ fuel ih =>
    intro listed E a w hf inv hS
    refine ⟨fun hr => fin listed E a w inv hr hS, fun i hi => ?_⟩
    obtain ⟨hun, oi, hoi, hall⟩ := mem_ready.1 hi
    have hil : i < ops.size := (Array.getElem?_eq_some_iff.1 hoi).1
    have hunf := getD_ff hun
    obtain ⟨mi, hmi⟩ := masks_get hms hil
    obtain ⟨ro, hro, h2⟩ := hsp i oi (by simpa using hoi)
    have hc := hstep (fun j => listed.getD j false) i ro mi hro hmi hunf (fun j hj => (anc hms hE inv i i (Nat.le_refl _) oi mi hoi hmi hall j hj).2) (fun i' m' hi' hm' j hj => by
      have hi2 : i' < ops.size := by
        rcases Nat.lt_or_ge i' listed.size with q | q
        · rw [← inv.size]; exact q
        · simp [Array.getD, Nat.not_lt.2 q] at hi'
      have ho' : ops[i']? = some ops[i'] := Array.getElem?_eq_getElem hi2
      exact (anc hms hE inv i' i' (Nat.le_refl _) ops[i'] m' ho' hm' (inv.closed i' ops[i'] ho' hi') j hj).2)
    have hls : (fun j => if j = i then true else listed.getD j false) = (fun j => (listed.setIfInBounds i true).getD j false) := by
      funext j
      by_cases hij : j = i
      · subst hij
        have : j < listed.size := by rw [inv.size]; exact hil
        simp [this]
      · rw [if_neg hij, getD_set_ne false (Ne.symm hij)]
    rw [hls] at hc
    have hnext : ∀ s' E' a' w', le s' (St fun j => (listed.setIfInBounds i true).getD j false) → SatS G s' E' a' w' → wpAnyIn (W1 r) nf P .any ops Q fuel (listed.setIfInBounds i true) a' w' := fun s' E' a' w' hc' hS' => by
      obtain ⟨E2, h3⟩ := hc' G E' a' w' hS'
      exact ih _ E2 a' w' (by have := unl_set hun; omega) (inv.set hi) h3
    rcases chain_step hc with ⟨p, out, u, _, hok, hc'⟩ | ⟨_, p, hp, hu, hsp'⟩
    rotate_left
    · unfold wpOpIn
      simp only [hoi]
      exact sp_step hG h2 hS hp hu hsp' _ Q (fun s' E' a' w' hc' hS' => hnext s' E' a' w' (by rw [chain_nil] at hc'; exact hc') hS')
    have hslots : ∀ x, sat E w (ev (St fun j => listed.getD j false).tm x) (a.eval x) := fun x => ev_sat hS.st x (fun t _ => rfl)
    obtain ⟨f, hop⟩ := h2.op
    have hG1 : GOk P r nf G (lk (St fun j => listed.getD j false).tm) (lm (St fun j => listed.getD j false).mem) E a w ops oi (gdd p out) u := by
      refine gok_of hS.st h2.gd (by rw [← pathOf_eq]; exact hok.path) (fun g b hg => hslots _) hok.okU (fun hpc => ?_)
      refine hok.sem r nf G _ _ E a w oi ?_ hpc
      rw [stepP_eq]
      exact stepQ_sem hS.st (hS.nx _ (Nat.le_refl _)) hop hpc (fun x _ => hslots x) (by rw [← underAll_eq]; exact hok.under)
    unfold wpOpIn
    simp only [hoi]
    refine hG1 _ Q (fun E' w' v h3 h4 h5 => ?_)
    have hS' := satS_app (dst := oi.dst) (p := p) hS.nx h4 h5 hok.okU (fun d hd => by rw [hG]; exact h2.lt d hd)
    rw [h2.dst] at hc'
    rw [chain_nil] at hc'
    exact hnext _ E' _ w' hc' hS'
end
section
variable {P : Program} {N : Nat} {s : S} {Q : Ex → S → Prop}
theorem W_regJ {ms : List Nat} {rl : List RO} {ks : List Nat} (St : (Nat → Bool) → S) (hs : le s (St fun _ => false))
    (hstep : ∀ (D : Nat → Bool) (i : Nat) ro m, rl[i]? = some ro → ms[i]? = some m → D i = false → (∀ j, tb m j → D j = true) → (∀ i' m', D i' = true → ms[i']? = some m' → ∀ j, tb m' j → D j = true) → chain P none [ro] (St D) (fun s' => le s' (St fun j => if j = i then true else D j)))
    (hend : ∀ D : Nat → Bool, (∀ j, j < rl.length → D j = true) → ∃ s', le (St D) s' ∧ Q .n (s'.keep ks)) : W P N (regL ks (some ms) rl) s Q := by
  intro hm code fz ht r nf G E x w hG hS
  obtain ⟨id, ops, d, rfl, hrl, hd⟩ := trC_reg ht
  rcases hd with ⟨rfl, hx⟩ | ⟨rfl, hx, hE, hO⟩
  · cases hx
  · cases hx
    refine wpIn_region_any hm ?_
    have hrep : ∀ j, (Array.replicate ops.size false).getD j false = false := fun j => by
      rcases Nat.lt_or_ge j ops.size with h | h
      · simp [h]
      · simp [h]
    have hf : (fun j => (Array.replicate ops.size false).getD j false) = fun _ => false := funext hrep
    obtain ⟨E0, hS0⟩ := hs G E x _ ⟨hS.st.drew, hS.nx⟩
    refine reg_invJ hG.1 hrl rfl hE St hstep (fun D hD E a w hS' => ?_) ops.size _ E0 x _ (by simp [unl]) ⟨by simp, fun j oj hj hl => by rw [hrep] at hl; cases hl⟩ (by rw [hf]; exact hS0)
    obtain ⟨s', h1, h2⟩ := hend D hD
    obtain ⟨E2, h3⟩ := h1 G E a w hS'
    exact ⟨_, E2, h2, keep_sat ks h3⟩
end
theorem Ext.put {a nx b nx2 : Nat} {R R2 : Mem} {g : Blk} (h : Ext a R nx R2) (h1 : a ≤ b) (h2 : b < nx2) (h3 : nx ≤ nx2) : Ext a R nx2 (setm R2 b g) :=
  ⟨Nat.le_trans h.n h3, fun j hj => by rw [lm_set_other _ _ (by omega)]; exact h.eq j hj, fun j hj => by rw [lm_set_other _ _ (by omega)]; exact h.hi j (by omega)⟩
theorem Inl_adopt {P : Program} {f : Nat} (T n : Nat) {α : Type} (d : α) (F : α → List AV) (hn : 0 < n) {rest : List AV} {s : S} {K : AV → S → Prop} (h : Inl P f (.row s.nx 0 :: rest) ⟨s.tm, (s.nx, .row 0 T n d F []) :: s.mem, s.nx + 1⟩ K) : Inl P f (.v (.slice none 0 0) :: rest) s K := by
  refine ⟨h.1, fun G E a w vs hS hT => ?_⟩
  have hfr := hS.st.fresh s.nx (hS.nx _ (Nat.le_refl _))
  let E' : Env := ⟨E.b, fun k s' => if k = s.nx ∧ s' = 0 then some (none, 0, 0) else E.h k s', E.F⟩
  have hE : E.le E' := ⟨fun _ _ h => h, fun k s' x h => by
    by_cases hk : k = s.nx ∧ s' = 0
    · obtain ⟨rfl, rfl⟩ := hk
      rw [hfr.2 0] at h; cases h
    · simp only [E', if_neg hk]; exact h, fun _ h => h⟩
  have hold : ∀ k, k ≠ s.nx → E'.b k = E.b k ∧ ∀ s', E'.h k s' = E.h k s' := fun k hk => ⟨rfl, fun s' => by simp only [E']; rw [if_neg (fun h => hk h.1)]⟩
  have h0 : E'.h s.nx 0 = some (none, 0, 0) := by simp [E']
  have hlm : ∀ k, lm ((s.nx, Blk.row 0 T n d F []) :: s.mem) k = upd (lm s.mem) s.nx (some (.row 0 T n d F [])) k := fun k => by simp only [lm, upd]
  refine h.2 G E' a w vs ⟨?_, fun k hk => ?_⟩ ?_
  · have step := hS.st.step s.nx (.row 0 T n d F []) E' w hE (fun _ _ => rfl) (KeepsOthers.refl w) hS.st.ext hS.st.fz hold
      (fun k blk b hk hm hb => ⟨rfl, hS.st.nF k blk b hm hb⟩)
      ⟨(none, 0, 0), [], h0, ⟨by simp, .inl ⟨rfl, rfl⟩⟩, hn, fun i x hx => by simp at hx⟩
      (fun b hb => by simp [blkLoc, h0, hv, Value.ownBlock] at hb)
      (fun l s' h => by cases h)
      (fun s1 e n' α' d' f' l' h => by
        cases h
        exact ⟨hfr.1, fun s' hs => by simp only [E']; rw [if_neg (fun h => by omega)]; exact hfr.2 s'⟩)
    have e1 : lm ((s.nx, Blk.row 0 T n d F []) :: s.mem) = upd (lm s.mem) s.nx (some (.row 0 T n d F [])) := funext hlm
    show Sat G (lk s.tm) (lm ((s.nx, Blk.row 0 T n d F []) :: s.mem)) E' a w
    rw [e1]
    exact step
  · have hk' : s.nx + 1 ≤ k := hk
    show lm ((s.nx, Blk.row 0 T n d F []) :: s.mem) k = none
    simp only [lm]
    rw [if_neg (by omega)]
    exact hS.nx k (by omega)
  · simp only [satT] at hT ⊢
    obtain ⟨x, xs, rfl, h1, h2⟩ := hT
    refine ⟨x, xs, rfl, ?_, satT_mono hE (fun _ _ => rfl) rest xs h2⟩
    simp only [sat] at h1 ⊢
    exact ⟨_, h0, by rw [h1]; rfl⟩
section
variable {P : Program} {N : Nat}
theorem Inl_opqE {f : Nat} {c : C} {np : Nat} {rv : List RV} (hm : P.follows .mixedOrders = true) (ht : Text P f c N np rv) {raw : List AV} (hn : raw.length = np) {N0 nx : Nat} {B R : Mem} {tm : List (Nat × AV)} (hR : Opq N0 R nx) (hB : Bas N0 B) {K : AV → Mem → Prop}
    (h : ∀ R' nx', Opq N0 R' nx' → nx < nx' → (∀ j, j < nx → lm R' j = lm R j) → W P N c ⟨initT 0 raw, B ++ R', nx'⟩ (FinX N0 rv nx' R' K)) : Inl P f raw ⟨tm, B ++ R, nx⟩ (MidX N0 tm nx R K) := by
  have hBn : lm B nx = none := hB nx hR.n
  refine Inl_le' (Inl_of_W hm ht hn (K := MidX N0 tm nx R K) (fun vs => ?_)) (fun r s' h => ⟨s', h, leS.refl _⟩)
  have hp := hR.push (.oth (.fr vs tm))
  refine W_le (leS.le (leS_same (B ++ (nx, Blk.oth (.fr vs tm)) :: R) (nx + 1) (fun k => lm_back B R _ hBn k) (hp.mem hB))) ?_
  refine W_mono' (h _ _ hp (Nat.lt_succ_self _) (fun j hj => by simp only [lm]; rw [if_neg (by omega)])) (fun e s' hq => ?_)
  have key : (∃ xs B' R2, resOK s' rv xs ∧ sameM (B' ++ R2) s'.mem ∧ Bas N0 B' ∧ Ext (nx + 1) ((nx, Blk.oth (.fr vs tm)) :: R) s'.nx R2 ∧ K (pack xs) B') → ∃ xs tmc, resOK s' rv xs ∧ lm s'.mem nx = some (.oth (.fr vs tmc)) ∧ MidX N0 tm nx R K (pack xs) ⟨tmc, delm s'.mem nx, s'.nx⟩ := by
    rintro ⟨xs, B', R2, h1, h2, h3, h4, h5⟩
    have hBn' : lm B' nx = none := h3 nx hR.n
    have hRn : lm R2 nx = some (.oth (.fr vs tm)) := by rw [h4.eq nx (Nat.lt_succ_self _)]; simp [lm]
    refine ⟨xs, tm, h1, by rw [← h2 nx, lm_app_r hBn', hRn], B', delm R2 nx, s'.nx, h3, ⟨by have := h4.n; omega, fun j hj => ?_, fun j hj => ?_⟩, h5, ?_⟩
    · rw [lm_delm, if_neg (by omega), h4.eq j (by omega)]
      simp only [lm]
      rw [if_neg (by omega)]
    · rw [lm_delm]
      split
      · rfl
      · exact h4.hi j hj
    · have hx : ∀ j, lm (B' ++ delm R2 nx) j = lm (delm s'.mem nx) j := fun j => by
        rw [lm_delm, ← h2 j]
        by_cases q : j = nx
        · rw [if_pos q, q, lm_app_r hBn', lm_delm, if_pos rfl]
        · rw [if_neg q]
          cases hb : lm B' j with
          | none => rw [lm_app_r hb, lm_app_r hb, lm_delm, if_neg q]
          | some b => rw [lm_app, lm_app, hb]
      refine leS_same (s := ⟨tm, delm s'.mem nx, s'.nx⟩) _ _ hx (fun j hj => ?_)
      have := h4.n
      have := hR.n
      rw [lm_app_r (h3 j (by omega)), lm_delm]
      split
      · rfl
      · exact h4.hi j hj
  cases e with
  | e id => exact hq.elim
  | n => exact key hq
  | r => exact key hq
end
section
variable {P : Program} {r : Option Nat} {nf N : Nat} {fz : List Nat} {G : Gl} {ops : Array Oper} {rl : List RO} {ms : List Nat}
end
section
variable {P : Program} {N : Nat} {s : S} {Q : Ex → S → Prop}
end
section
variable {P : Program} {r : Option Nat} {nf : Nat} {G : Gl} {tm : Nat → AV} {mem : Nat → Option Blk} {E : Env} {a : Act} {w : World} {o : Oper}
end
section
variable {P : Program} {N : Nat} {s s' : S}
end
section
variable {P : Program} {N : Nat}
end
theorem syf {F p q : Prop} (f : F) (h : q) (e : F → p = q := by intro f; conv => lhs; simp (maxSteps := 400000) (disch := omega) only [push_cast, ↓reduceIte, reduceCtorEq, Nat.reduceAdd, Nat.reduceSub, Nat.reduceEqDiff, Nat.reduceLeDiff, Nat.reduceLT, Nat.reduceBEq, Nat.reduceDiv, Nat.reduceMod, Nat.reducePow, Nat.reduceMul, Int.reduceToNat, Int.reduceLT, Int.reduceLE, f]) : p := (e f).mpr h
theorem eqf {F p q : Prop} (f : F) (h : q) (e : F → p = q := by intro f; conv => lhs; simp (maxSteps := 400000) (disch := omega) only [push_cast, ↓reduceIte, reduceCtorEq, Nat.reduceAdd, Nat.reduceSub, Nat.reduceEqDiff, Nat.reduceLeDiff, Nat.reduceLT, Nat.reduceBEq, Nat.reduceDiv, Nat.reduceMod, Nat.reducePow, Nat.reduceMul, Int.reduceToNat, Int.reduceLT, Int.reduceLE, S.mk.injEq, List.cons.injEq, Prod.mk.injEq, AV.v.injEq, Value.int.injEq, Value.bool.injEq, Blk.cells.injEq, f]) : p := (e f).mpr h
theorem syP {p q : Prop} (h : q) (e : p = q := by conv => lhs; simp (maxSteps := 400000) (disch := omega) only [push_cast, ↓reduceIte, reduceCtorEq, Nat.reduceAdd, Nat.reduceSub, Nat.reduceEqDiff, Nat.reduceLeDiff, Nat.reduceLT, Nat.reduceBEq, Nat.reduceDiv, Nat.reduceMod, Nat.reducePow, Nat.reduceMul, Int.reduceToNat, Int.reduceLT, Int.reduceLE, pack]) : p := (e).mpr h
theorem syN {p q : Prop} (h : q) (e : p = q := by conv => lhs; simp (maxSteps := 400000) (disch := omega) only [push_cast, ↓reduceIte, reduceCtorEq, Nat.reduceAdd, Nat.reduceSub, Nat.reduceEqDiff, Nat.reduceLeDiff, Nat.reduceLT, Nat.reduceBEq, Nat.reduceDiv, Nat.reduceMod, Nat.reducePow, Nat.reduceMul, Int.reduceToNat, Int.reduceLT, Int.reduceLE, EndP]) : p := (e).mpr h
theorem sCP {p q : Prop} (h : q) (e : p = q := by conv => lhs; simp (maxSteps := 400000) (disch := omega) only [push_cast, ↓reduceIte, reduceCtorEq, Nat.reduceAdd, Nat.reduceSub, Nat.reduceEqDiff, Nat.reduceLeDiff, Nat.reduceLT, Nat.reduceBEq, Nat.reduceDiv, Nat.reduceMod, Nat.reducePow, Nat.reduceMul, Int.reduceToNat, Int.reduceLT, Int.reduceLE, chainP, List.take_succ_cons, List.take_zero, List.drop_succ_cons, List.drop_zero]) : p := (e).mpr h
theorem sCS {p q : Prop} (h : q) (e : p = q := by conv => lhs; simp (maxSteps := 400000) (disch := omega) only [push_cast, ↓reduceIte, reduceCtorEq, Nat.reduceAdd, Nat.reduceSub, Nat.reduceEqDiff, Nat.reduceLeDiff, Nat.reduceLT, Nat.reduceBEq, Nat.reduceDiv, Nat.reduceMod, Nat.reducePow, Nat.reduceMul, Int.reduceToNat, Int.reduceLT, Int.reduceLE, chainX, SpM, List.take_succ_cons, List.take_zero, List.drop_succ_cons, List.drop_zero]) : p := (e).mpr h
theorem ad2 {a b : Prop} (ha : a) (hb : b) : a ∧ b := ⟨ha, hb⟩
theorem ad3 {a b c : Prop} (ha : a) (hb : b) (hc : c) : a ∧ b ∧ c := ⟨ha, hb, hc⟩
theorem ad4 {a b c d : Prop} (ha : a) (hb : b) (hc : c) (hd : d) : a ∧ b ∧ c ∧ d := ⟨ha, hb, hc, hd⟩
theorem ad5 {a b c d e : Prop} (ha : a) (hb : b) (hc : c) (hd : d) (he : e) : a ∧ b ∧ c ∧ d ∧ e := ⟨ha, hb, hc, hd, he⟩
theorem ad6 {a b c d e f : Prop} (ha : a) (hb : b) (hc : c) (hd : d) (he : e) (hf : f) : a ∧ b ∧ c ∧ d ∧ e ∧ f := ⟨ha, hb, hc, hd, he, hf⟩
theorem ad7 {a b c d e f g : Prop} (ha : a) (hb : b) (hc : c) (hd : d) (he : e) (hf : f) (hg : g) : a ∧ b ∧ c ∧ d ∧ e ∧ f ∧ g := ⟨ha, hb, hc, hd, he, hf, hg⟩
theorem go_c {A p q : Prop} (c : A) (h : q) (e : A → Hid q → p := by intro c hq; (repeat' (first | refine w1g ?_ | refine w1l ?_ | refine w1q ?_ | refine w1b ?_ | refine w1p ?_ | ((first | refine w1r ?_ | refine w1k ?_ | refine w1e ?_ | refine CallC.now (c ..) ?_); (refine sy1 ?_; try exact True.intro)) | refine an2 ?_ | fail)); all_goals exact hq.get) : p := e c ⟨h⟩
theorem go_g {A p q : Prop} (c : A) (h : q) (e : A → Hid q → p := by intro c hq; (repeat' (first | refine w1g ?_ | refine w1l ?_ | refine w1q ?_ | refine w1b ?_ | refine w1p ?_ | ((first | refine w1r ?_ | refine w1k ?_ | refine w1e ?_ | refine CallC.go _ (fun _ => ⟨trivial, c ..⟩) rfl ?_); (refine sy1 ?_; try exact True.intro)) | refine an2 ?_ | fail)); all_goals exact hq.get) : p := e c ⟨h⟩
theorem go_cc {A B p q : Prop} (c : A) (d : B) (h : q) (e : A → B → Hid q → p := by intro c d hq; (repeat' (first | refine w1g ?_ | refine w1l ?_ | refine w1q ?_ | refine w1b ?_ | refine w1p ?_ | ((first | refine w1r ?_ | refine w1k ?_ | refine w1e ?_ | refine CallC.now (c ..) ?_ | refine CallC.now (d ..) ?_); (refine sy1 ?_; try exact True.intro)) | refine an2 ?_ | fail)); all_goals exact hq.get) : p := e c d ⟨h⟩
theorem go_cg {A B p q : Prop} (c : A) (d : B) (h : q) (e : A → B → Hid q → p := by intro c d hq; (repeat' (first | refine w1g ?_ | refine w1l ?_ | refine w1q ?_ | refine w1b ?_ | refine w1p ?_ | ((first | refine w1r ?_ | refine w1k ?_ | refine w1e ?_ | refine CallC.now (c ..) ?_ | refine CallC.go _ (fun _ => ⟨trivial, d ..⟩) rfl ?_); (refine sy1 ?_; try exact True.intro)) | refine an2 ?_ | fail)); all_goals exact hq.get) : p := e c d ⟨h⟩
theorem go_gg {A B p q : Prop} (c : A) (d : B) (h : q) (e : A → B → Hid q → p := by intro c d hq; (repeat' (first | refine w1g ?_ | refine w1l ?_ | refine w1q ?_ | refine w1b ?_ | refine w1p ?_ | ((first | refine w1r ?_ | refine w1k ?_ | refine w1e ?_ | refine CallC.go _ (fun _ => ⟨trivial, c ..⟩) rfl ?_ | refine CallC.go _ (fun _ => ⟨trivial, d ..⟩) rfl ?_); (refine sy1 ?_; try exact True.intro)) | refine an2 ?_ | fail)); all_goals exact hq.get) : p := e c d ⟨h⟩
theorem go_ccc {A B C p q : Prop} (c : A) (d : B) (g : C) (h : q) (e : A → B → C → Hid q → p := by intro c d g hq; (repeat' (first | refine w1g ?_ | refine w1l ?_ | refine w1q ?_ | refine w1b ?_ | refine w1p ?_ | ((first | refine w1r ?_ | refine w1k ?_ | refine w1e ?_ | refine CallC.now (c ..) ?_ | refine CallC.now (d ..) ?_ | refine CallC.now (g ..) ?_); (refine sy1 ?_; try exact True.intro)) | refine an2 ?_ | fail)); all_goals exact hq.get) : p := e c d g ⟨h⟩
theorem gof {F p q : Prop} (f : F) (h : q) (e : F → Hid q → p := by intro f hq; (repeat' (first | refine w1g ?_ | refine w1l ?_ | refine w1q ?_ | refine w1b ?_ | refine w1p ?_ | ((first | refine w1r ?_ | refine w1k ?_ | refine w1e ?_); (refine syf f ?_; try exact True.intro)) | refine an2 ?_ | fail)); all_goals exact hq.get) : p := e f ⟨h⟩
theorem gofc {F A p q : Prop} (f : F) (c : A) (h : q) (e : F → A → Hid q → p := by intro f c hq; (repeat' (first | refine w1g ?_ | refine w1l ?_ | refine w1q ?_ | refine w1b ?_ | refine w1p ?_ | ((first | refine w1r ?_ | refine w1k ?_ | refine w1e ?_ | refine CallC.now (c ..) ?_); (refine syf f ?_; try exact True.intro)) | refine an2 ?_ | fail)); all_goals exact hq.get) : p := e f c ⟨h⟩
theorem gofg {F A p q : Prop} (f : F) (c : A) (h : q) (e : F → A → Hid q → p := by intro f c hq; (repeat' (first | refine w1g ?_ | refine w1l ?_ | refine w1q ?_ | refine w1b ?_ | refine w1p ?_ | ((first | refine w1r ?_ | refine w1k ?_ | refine w1e ?_ | refine CallC.go _ (fun _ => ⟨trivial, c ..⟩) rfl ?_); (refine syf f ?_; try exact True.intro)) | refine an2 ?_ | fail)); all_goals exact hq.get) : p := e f c ⟨h⟩
theorem gofcc {F A B p q : Prop} (f : F) (c : A) (d : B) (h : q) (e : F → A → B → Hid q → p := by intro f c d hq; (repeat' (first | refine w1g ?_ | refine w1l ?_ | refine w1q ?_ | refine w1b ?_ | refine w1p ?_ | ((first | refine w1r ?_ | refine w1k ?_ | refine w1e ?_ | refine CallC.now (c ..) ?_ | refine CallC.now (d ..) ?_); (refine syf f ?_; try exact True.intro)) | refine an2 ?_ | fail)); all_goals exact hq.get) : p := e f c d ⟨h⟩
theorem gofcg {F A B p q : Prop} (f : F) (c : A) (d : B) (h : q) (e : F → A → B → Hid q → p := by intro f c d hq; (repeat' (first | refine w1g ?_ | refine w1l ?_ | refine w1q ?_ | refine w1b ?_ | refine w1p ?_ | ((first | refine w1r ?_ | refine w1k ?_ | refine w1e ?_ | refine CallC.now (c ..) ?_ | refine CallC.go _ (fun _ => ⟨trivial, d ..⟩) rfl ?_); (refine syf f ?_; try exact True.intro)) | refine an2 ?_ | fail)); all_goals exact hq.get) : p := e f c d ⟨h⟩
theorem gofccc {F A B C p q : Prop} (f : F) (c : A) (d : B) (g : C) (h : q) (e : F → A → B → C → Hid q → p := by intro f c d g hq; (repeat' (first | refine w1g ?_ | refine w1l ?_ | refine w1q ?_ | refine w1b ?_ | refine w1p ?_ | ((first | refine w1r ?_ | refine w1k ?_ | refine w1e ?_ | refine CallC.now (c ..) ?_ | refine CallC.now (d ..) ?_ | refine CallC.now (g ..) ?_); (refine syf f ?_; try exact True.intro)) | refine an2 ?_ | fail)); all_goals exact hq.get) : p := e f c d g ⟨h⟩
end Sy
