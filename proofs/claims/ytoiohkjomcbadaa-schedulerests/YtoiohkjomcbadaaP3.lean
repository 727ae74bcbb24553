/- Part 3 of the proof of: For crews with at most seven legs and few times: times that are allowed are never ahead of the crew's best times, the best times are allowed, and with more time to drive, shorter rests and an earlier start they end no later: the law ScheduleRests holds. -/
import Derived.Test.YtoiohkjomcbadaaP2
import Derived.Shelf.Sort.Plain
import Derived.Shelf.Slices.In.SortNone
namespace Sy
open Go Go.RowKit
set_option linter.unusedVariables false
set_option linter.unusedSimpArgs false
abbrev ptB (b off : Nat) : AV := .v (.pointer (some ⟨b, off, none⟩))
section
variable {P : Program} {N : Nat} {c : C} {s : S} {Q : Ex → S → Prop}
theorem nm_b {G : Gl} {E : Env} {a : Act} {w : World} (hS : SatS G s E a w) {j k b : Nat} (hn : lm s.mem j = some (.oth (.nm k b))) : E.b k = some b := hS.st.memv j _ hn
theorem W_name (k : Nat) {l : List AV} (hm : lm s.mem k = some (.cells l)) (h : ∀ b, W P N c ⟨s.tm, (s.nx, .oth (.nm k b)) :: s.mem, s.nx + 1⟩ Q) : W P N c s Q := by
  intro hm0 code fz ht r nf G E x w hG hS
  obtain ⟨b, cs, T, h1, h2, h3, h4⟩ := hS.st.memv k _ hm
  have hfr := hS.st.fresh s.nx (hS.nx _ (Nat.le_refl _))
  have step := hS.st.step s.nx (.oth (.nm k b)) E w (Env.le.refl E) (fun _ _ => rfl) (KeepsOthers.refl w) hS.st.ext hS.st.fz (fun _ _ => ⟨rfl, fun _ => rfl⟩)
    (fun k' blk b' _ hk hb => ⟨rfl, hS.st.nF k' blk b' hk hb⟩) h1 (fun b' hb => by cases hb) (fun l' s' hh => by cases hh) (fun s' e n α d f l' hh => by cases hh) (fun y hy => hfr)
  refine h b hm0 code fz ht r nf G E x w hG ⟨?_, fun j hj => ?_⟩
  · have e1 : lm ((s.nx, Blk.oth (.nm k b)) :: s.mem) = upd (lm s.mem) s.nx (some (.oth (.nm k b))) := by funext j; simp only [lm, upd]
    show Sat G (lk s.tm) (lm ((s.nx, Blk.oth (.nm k b)) :: s.mem)) E x w
    rw [e1]; exact step
  · show lm ((s.nx, Blk.oth (.nm k b)) :: s.mem) j = none
    have hj' : s.nx + 1 ≤ j := hj
    simp only [lm]
    rw [if_neg (by omega)]
    exact hS.nx j (by omega)
theorem le_slot (t : Nat) (x : AV) (h : ∀ (G : Gl) (E : Env) (a : Act) (w : World), SatS G s E a w → ∀ y, sat E w (lk s.tm t) y → sat E w x y) : le s ⟨(t, x) :: s.tm, s.mem, s.nx⟩ :=
  le_tm _ fun G E a w hS t' => by
    simp only [lk]
    split
    · rename_i e
      rw [e]
      exact h G E a w hS _ (hS.st.tmv t)
    · exact hS.st.tmv t'
theorem le_v_own (t j k b off : Nat) (ht : lk s.tm t = ptB b off) (hn : lm s.mem j = some (.oth (.nm k b))) : le s ⟨(t, .own k off) :: s.tm, s.mem, s.nx⟩ :=
  le_slot t _ fun G E a w hS y hy => by
    have h1 := nm_b hS hn
    rw [ht] at hy
    simp only [sat] at hy ⊢
    exact ⟨b, h1, hy⟩
end
end Sy

namespace Sy
open Go Go.RowKit
set_option linter.unusedVariables false
theorem Inl_put {P : Program} {f : Nat} (hb : hasBody P f = true) {s : S} {k st T n : Nat} {α : Type} {d : α} {F : α → List AV} {l l' : List α} (hk : lm s.mem k = some (.row st T n d F l)) (hn : 0 < n) {ys : List Value}
    (h : ∀ (B : Nat) (Fz : Nat → Prop) (w : World) (hh : Hd) (xs : List Value), w.ownsRow B T n (hv hh) l.length xs → rowSat Fz w n F l xs → Calls P f (hv hh :: ys).toArray w fun e w' => ∃ (xs' : List Value), e = .returned (.tuple #[]) ∧ w'.ownsRow B T n (hv hh) l'.length xs' ∧ w.grownBy w' (hv hh).ownBlock ∧ rowSat Fz w n F l' xs')
    {K : AV → S → Prop} (hK : K (.tup []) ⟨s.tm, setm s.mem k (.row st T n d F l'), s.nx⟩) : Inl P f (.row k st :: ys.map .v) s K := by
  refine ⟨hb, fun G E a w vs hS hT => ?_⟩
  simp only [satT, sat] at hT
  obtain ⟨y, zs, rfl, ⟨hh, e1, rfl⟩, hT⟩ := hT
  obtain rfl := satT_consts hT
  obtain ⟨v, xs, e2, hown, _, hrow⟩ := hS.st.memv k _ hk
  rw [e1] at e2
  cases e2
  refine (h G.w0.heap.size E.F w hh xs hown hrow).mono ?_
  rintro e w' ⟨xs', rfl, hown', hg, hrow'⟩
  have S := hS.st
  have hst := S.stampR k st T n α d F l hk
  have hwas : ∀ b, (hv hh).ownBlock = some b → blkLoc E k (.row st T n d F l) = some b := fun b hb => by simp only [blkLoc, e1, Option.bind_some]; exact hb
  have hnF : ∀ b, E.F b → (hv hh).ownBlock ≠ some b := fun b hF he => S.nF k _ b hk (hwas b he) hF
  have hlt : ∀ k blk b, lm s.mem k = some blk → blkLoc E k blk = some b → b < w.heap.size := fun k blk b hk hb => (blkLoc_lt blk (S.memv k blk hk) b hb).2
  have hrowge : ∀ b, (hv hh).ownBlock = some b → G.w0.heap.size ≤ b := fun b he => (blkLoc_lt _ (S.memv k _ hk) b (hwas b he)).1
  have hFs : ∀ b, E.F b → w'.heap[b]? = w.heap[b]? := fun b hF => hg.block b (S.fz b hF).1 (fun he => hnF b hF he.symm)
  refine ⟨_, .tup [], _, E, rfl, hK, ⟨?_, fun j hj => ?_⟩, by simp only [sat, satT]; exact ⟨[], rfl, rfl⟩⟩
  · show Sat G (lk s.tm) (lm (setm s.mem k (.row st T n d F l'))) E a w'
    rw [lm_setm]
    refine S.step k (.row st T n d F l') E w' (Env.le.refl E) hFs (KeepsOthers.of_grownBy hg (fun j o he ho => blkLoc_cells _ rfl (S.memv k _ hk) j (hwas j he) o ho)) ?_ ?_ (fun k' hk => ⟨rfl, fun s' => rfl⟩) (fun k' blk b hk' hm hb => ⟨?_, S.nF k' blk b hm hb⟩) ?_ ?_ ?_ ?_
    · exact ⟨hg.os.trans S.ext.os, hg.tape.trans S.ext.tape, hg.output.trans S.ext.output, Nat.le_trans S.ext.size hg.size, fun i hi => (hg.block i (Nat.lt_of_lt_of_le hi S.ext.size) (fun he => by have := hrowge i he.symm; omega)).trans (S.ext.block i hi)⟩
    · intro b hF
      exact ⟨Nat.lt_of_lt_of_le (S.fz b hF).1 hg.size, (S.fz b hF).2⟩
    · refine hg.block b (hlt k' blk b hm hb) (fun he => hk' ?_)
      exact S.inj k' k blk _ b hm hk hb (hwas b he.symm)
    · refine ⟨hh, xs', e1, hown', hn, fun i x hx => ?_⟩
      obtain ⟨h1, h2⟩ := hrow' i x hx
      exact ⟨h1, fsatL_mono (fun _ h => h) hFs _ _ h2⟩
    · intro b hb
      have hb' : (hv hh).ownBlock = some b := by simpa [blkLoc, e1] using hb
      exact ⟨hnF b |> fun q hF => q hF hb', fun k' blk hk' hm he => hk' (S.inj k' k blk _ b hm hk he (hwas b hb'))⟩
    · intro l' s' he; cases he
    · intro s1 e' n' α' d' f' l' he
      cases he
      exact hst
  · have hkn : k < s.nx := by
      rcases Nat.lt_or_ge k s.nx with h1 | h1
      · exact h1
      · rw [hS.nx k h1] at hk; cases hk
    have hj' : s.nx ≤ j := hj
    show lm (setm s.mem k _) j = none
    rw [lm_set_other _ _ (by omega)]
    exact hS.nx j hj'
end Sy

namespace Sy
open Go Go.RowKit Go.Sort Go.Shelf
set_option linter.unusedVariables false
theorem sortI_len (l : List Int) : (l.mergeSort fun x y => decide (x ≤ y)).length = l.length := List.length_mergeSort l
theorem Inl_sortI {P : Program} {ρ : Ren} (L : Go.Proofs.Lays.n189 P ρ) (hb : hasBody P (ρ.f 189) = true) {s : S} {k st T : Nat} {d : Int} {F : Int → List AV} {l : List Int} (hF : ∀ x, F x = [.v (.int .i64 x)])
    (hk : lm s.mem k = some (.row st T 1 d F l)) (hsz : l.length < 4611686018427387904) {K : AV → S → Prop} (hK : K (.tup []) ⟨s.tm, setm s.mem k (.row st T 1 d F (l.mergeSort fun x y => decide (x ≤ y))), s.nx⟩) : Inl P (ρ.f 189) [.row k st] s K := by
  refine Inl_put hb hk (by omega) (ys := []) (fun B Fz w hh xs hown hrow => ?_) hK
  obtain ⟨hxl, hcase⟩ := hown
  have hrs : ∀ (m : List Int), rowSat Fz w 1 F m (m.map (Value.int .i64)) := fun m i x hx => by
    rw [hF]
    refine ⟨rfl, ?_⟩
    have h1 := (List.getElem?_eq_some_iff.1 hx).1
    have h2 : (m.map (Value.int .i64)).drop i = .int .i64 x :: (m.map (Value.int .i64)).drop (i + 1) := by
      rw [List.drop_eq_getElem_cons (by simpa using h1)]
      congr 1
      rw [List.getElem_map]
      congr 1
      exact (List.getElem?_eq_some_iff.1 hx).2
    rw [Nat.mul_one, h2]
    simp only [List.take_succ_cons, List.take_zero, fsatL, fsat]
    exact ⟨_, [], rfl, rfl, rfl, rfl⟩
  rcases hcase with ⟨h1, h0⟩ | ⟨g, cap, cur, e1, e2, e3, e4, e5, e6, e7⟩
  · obtain rfl := List.length_eq_zero_iff.1 h0
    rw [h1]
    refine (Go.Proofs.Any.slices_Sort_int_none L none 0 w).mono ?_
    rintro e w' ⟨rfl, rfl⟩
    refine ⟨[], rfl, ⟨by simp, .inl ⟨rfl, by simp⟩⟩, ⟨rfl, rfl, rfl, Nat.le_refl _, fun _ _ _ => rfl⟩, fun i x hx => by simp at hx⟩
  rw [e1]
  have hlt : g < w.heap.size := (Array.getElem?_eq_some_iff.1 e3).1
  have hxs : ∀ j (hj : j < l.length), cur.toList[j]? = some (.int .i64 l[j]) := fun j hj => by
    obtain ⟨_, q⟩ := hrow j l[j] (List.getElem?_eq_getElem hj)
    rw [hF] at q
    simp only [fsatL, fsat] at q
    obtain ⟨y, ys, q1, _, rfl, rfl⟩ := q
    have : xs[j]? = some (.int .i64 l[j]) := by
      have h := congrArg (fun z => z[0]?) q1
      simp only [List.getElem?_take, List.getElem?_drop, Nat.mul_one, Nat.add_zero] at h
      simpa using h
    rw [← e7, List.getElem?_take] at this
    rw [if_pos (by omega)] at this
    exact this
  have hH : Holds (Value.int .i64) w g 0 l.toArray := fun j hj => by
    have hj' : j < l.length := by simpa using hj
    refine ⟨?_, by simp [World.frozen?, e3]⟩
    rw [Nat.zero_add]
    have h := hxs j hj'
    simp only [World.cell?, e3]
    rw [getElem!_pos _ j hj]
    simpa using h
  refine (Go.Proofs.Any.slices_Sort_int L g 0 cap l w hH hlt hsz).mono ?_
  rintro e w' ⟨rfl, n, os, rfl⟩
  generalize hm : (l.mergeSort fun x y => decide (x ≤ y)) = m at *
  have hlm : m.length = l.length := by rw [← hm]; exact sortI_len l
  have hat : (grow (putRow (Value.int .i64) (Sort.ahead w n) g 0 m.toArray) os).heap[g]? = some (.cells (putCells (Value.int .i64) 0 m.toArray cur) T (0, 0)) := by
    show ((w.heap.modify g (onCells (putCells (Value.int .i64) 0 m.toArray))) ++ os)[g]? = _
    rw [Array.getElem?_append_left (by simpa using hlt), Array.getElem?_modify, if_pos rfl, e3]
    rfl
  have hget : ∀ j (hj : j < m.length), (putCells (Value.int .i64) 0 m.toArray cur).toList[j]? = some (.int .i64 m[j]) := fun j hj => by
    have hc : j < cur.size := by omega
    simp only [putCells, Array.getElem?_toList, Array.getElem?_mapIdx, Array.getElem?_eq_getElem hc, Option.map_some]
    rw [if_pos ⟨by omega, by simp; omega⟩, Nat.sub_zero, getElem!_pos _ j (by simpa using hj)]
    simp
  refine ⟨m.map (Value.int .i64), rfl, ⟨by simp, .inr ⟨g, cap, _, by rw [hlm], e2, hat, by omega, e5, by simp [putCells]; omega, ?_⟩⟩, ?_, hrs m⟩
  · apply List.ext_getElem?
    intro j
    rw [List.getElem?_take, Nat.mul_one]
    by_cases hj : j < m.length
    · rw [if_pos hj, hget j hj, List.getElem?_map, List.getElem?_eq_getElem hj]; rfl
    · rw [if_neg hj, List.getElem?_eq_none (by simpa using hj)]
  · refine ⟨rfl, rfl, rfl, by simp [grow, putRow, mapBlock, Sort.ahead], fun b hb hne => ?_⟩
    have hbg : g ≠ b := fun q => hne (by rw [q]; rfl)
    have hb' : b < w.heap.size := hb
    show ((w.heap.modify g (onCells (putCells (Value.int .i64) 0 m.toArray))) ++ os)[b]? = _
    rw [Array.getElem?_append_left (by simpa using hb'), Array.getElem?_modify, if_neg hbg]
end Sy

namespace Sy
open Go Go.RowKit
set_option linter.unusedVariables false
set_option linter.unusedSimpArgs false
structure Ext (nx : Nat) (R : Mem) (nx2 : Nat) (R2 : Mem) : Prop where
  n : nx ≤ nx2
  eq : ∀ j, j < nx → lm R2 j = lm R j
  hi : ∀ j, nx2 ≤ j → lm R2 j = none
theorem Ext.refl {N0 nx : Nat} {R : Mem} (h : Opq N0 R nx) : Ext nx R nx R := ⟨Nat.le_refl _, fun _ _ => rfl, h.hi⟩
theorem Ext.trans {a b c : Nat} {A B C : Mem} (h : Ext a A b B) (k : Ext b B c C) : Ext a A c C :=
  ⟨Nat.le_trans h.n k.n, fun j hj => (k.eq j (Nat.lt_of_lt_of_le hj h.n)).trans (h.eq j hj), k.hi⟩
theorem Ext.opq {N0 nx nx2 : Nat} {R R2 : Mem} (h : Ext nx R nx2 R2) (k : Opq N0 R nx) : Opq N0 R2 nx2 :=
  ⟨Nat.le_trans k.n h.n, fun j hj => (h.eq j (Nat.lt_of_lt_of_le hj k.n)).trans (k.lo j hj), h.hi⟩
theorem Ext.push {a nx b nx2 : Nat} {R R2 : Mem} {g : Blk} (h : Ext a R nx R2) (h1 : nx ≤ b) (h2 : b < nx2) : Ext a R nx2 ((b, g) :: R2) :=
  ⟨by have := h.n; omega, fun j hj => by have := h.n; simp only [lm]; rw [if_neg (by omega)]; exact h.eq j hj, fun j hj => by simp only [lm]; rw [if_neg (by omega)]; exact h.hi j (by omega)⟩
theorem Ext.set {a nx b nx2 : Nat} {R R2 : Mem} {g : Blk} (h : Ext a R nx R2) (h1 : nx ≤ b) (h2 : b < nx2) : Ext a R nx2 (setm R2 b g) :=
  ⟨by have := h.n; omega, fun j hj => by have := h.n; rw [lm_set_other _ _ (by omega)]; exact h.eq j hj, fun j hj => by rw [lm_set_other _ _ (by omega)]; exact h.hi j (by omega)⟩
theorem Ext.up {a nx nx2 : Nat} {R R2 : Mem} (h : Ext a R nx R2) (h1 : nx ≤ nx2) : Ext a R nx2 R2 := ⟨Nat.le_trans h.n h1, h.eq, fun j hj => h.hi j (by omega)⟩
theorem Ext.dn {a a' b : Nat} {A B : Mem} (h : Ext a' A b B) (ha : a ≤ a') : Ext a A b B := ⟨Nat.le_trans ha h.n, fun j hj => h.eq j (Nat.lt_of_lt_of_le hj ha), h.hi⟩
def sameM (m m' : Mem) : Prop := ∀ k, lm m k = lm m' k
theorem sameM.refl (m : Mem) : sameM m m := fun _ => rfl
theorem sameM.trans {a b c : Mem} (h : sameM a b) (k : sameM b c) : sameM a c := fun j => (h j).trans (k j)
theorem sameM.cons {n : Nat} {g : Blk} {a b : Mem} (h : sameM a b) : sameM ((n, g) :: a) ((n, g) :: b) := fun k => by simp only [lm]; rw [h k]
theorem sm_push {N0 n : Nat} {g : Blk} {B R : Mem} (hB : Bas N0 B) (hn : N0 ≤ n) : sameM ((n, g) :: (B ++ R)) (B ++ ((n, g) :: R)) := fun k => by
  rw [lm_back B R _ (hB n hn)]
theorem leS_sameM {s : S} (m : Mem) (nx : Nat) (h : sameM m s.mem) (hn : ∀ k, nx ≤ k → lm m k = none) : leS s ⟨s.tm, m, nx⟩ := leS_same m nx h hn
theorem Inl_sameM {P : Program} {f : Nat} {raw : List AV} {s : S} {K : AV → S → Prop} (m : Mem) (nx : Nat) (h : sameM m s.mem) (hn : ∀ k, nx ≤ k → lm m k = none) (hI : Inl P f raw ⟨s.tm, m, nx⟩ K) : Inl P f raw s K := by
  refine ⟨hI.1, fun G E a w vs hS hT => ?_⟩
  exact hI.2 G E a w vs (leS_sameM m nx h hn G E a w hS) hT
theorem ne_l {k s : Nat} (h : k < s) : (k = s) = False := eq_false (by omega)
theorem ne_r {k s : Nat} (h : s < k) : (k = s) = False := eq_false (by omega)
section
variable {P : Program} {N : Nat}
def FinX (N0 : Nat) (rv : List RV) (nx : Nat) (R : Mem) (K : AV → Mem → Prop) : Ex → S → Prop
  | .e _, _ => False
  | _, s' => ∃ xs B' R2, resOK s' rv xs ∧ sameM (B' ++ R2) s'.mem ∧ Bas N0 B' ∧ Ext nx R s'.nx R2 ∧ K (pack xs) B'
def MidX (N0 : Nat) (tm : List (Nat × AV)) (nx : Nat) (R : Mem) (K : AV → Mem → Prop) (r : AV) (s' : S) : Prop := ∃ B' R2 nx2, Bas N0 B' ∧ Ext nx R nx2 R2 ∧ K r B' ∧ leS s' ⟨tm, B' ++ R2, nx2⟩
theorem Inl_opq {f : Nat} {c : C} {np : Nat} {rv : List RV} (hm : P.follows .mixedOrders = true) (ht : Text P f c N np rv) {raw : List AV} (hn : raw.length = np) {N0 nx : Nat} {B R : Mem} {tm : List (Nat × AV)} (hR : Opq N0 R nx) (hB : Bas N0 B) {K : AV → Mem → Prop}
    (h : ∀ R' nx', Opq N0 R' nx' → W P N c ⟨initT 0 raw, B ++ R', nx'⟩ (FinX N0 rv nx' R' K)) : Inl P f raw ⟨tm, B ++ R, nx⟩ (MidX N0 tm nx R K) := by
  have hBn : lm B nx = none := hB nx hR.n
  refine Inl_le' (Inl_of_W hm ht hn (K := MidX N0 tm nx R K) (fun vs => ?_)) (fun r s' h => ⟨s', h, leS.refl _⟩)
  have hp := hR.push (.oth (.fr vs tm))
  refine W_le (leS.le (leS_same (B ++ (nx, Blk.oth (.fr vs tm)) :: R) (nx + 1) (fun k => lm_back B R _ hBn k) (hp.mem hB))) ?_
  refine W_mono' (h _ _ hp) (fun e s' hq => ?_)
  have key : (∃ xs B' R2, resOK s' rv xs ∧ sameM (B' ++ R2) s'.mem ∧ Bas N0 B' ∧ Ext (nx + 1) ((nx, Blk.oth (.fr vs tm)) :: R) s'.nx R2 ∧ K (pack xs) B') → ∃ xs tmc, resOK s' rv xs ∧ lm s'.mem nx = some (.oth (.fr vs tmc)) ∧ MidX N0 tm nx R K (pack xs) ⟨tmc, delm s'.mem nx, s'.nx⟩ := by
    rintro ⟨xs, B', R2, h1, h2, h3, h4, h5⟩
    have hBn' : lm B' nx = none := h3 nx hR.n
    have hRn : lm R2 nx = some (.oth (.fr vs tm)) := by rw [h4.eq nx (Nat.lt_succ_self _)]; simp [lm]
    refine ⟨xs, tm, h1, by rw [← h2 nx, lm_app_r hBn', hRn], B', delm R2 nx, s'.nx, h3, ⟨by have := h4.n; omega, fun j hj => ?_, fun j hj => ?_⟩, h5, ?_⟩
    · rw [lm_delm, if_neg (by omega), h4.eq j (by omega)]
      simp only [lm]
      rw [if_neg (by omega)]
    · rw [lm_delm]
      split
      · rfl
      · exact h4.hi j hj
    · have hx : ∀ j, lm (B' ++ delm R2 nx) j = lm (delm s'.mem nx) j := fun j => by
        rw [lm_delm, ← h2 j]
        by_cases q : j = nx
        · rw [if_pos q, q, lm_app_r hBn', lm_delm, if_pos rfl]
        · rw [if_neg q]
          cases hb : lm B' j with
          | none => rw [lm_app_r hb, lm_app_r hb, lm_delm, if_neg q]
          | some b => rw [lm_app, lm_app, hb]
      refine leS_same (s := ⟨tm, delm s'.mem nx, s'.nx⟩) _ _ hx (fun j hj => ?_)
      have := h4.n
      have := hR.n
      rw [lm_app_r (h3 j (by omega)), lm_delm]
      split
      · rfl
      · exact h4.hi j hj
  cases e with
  | e id => exact hq.elim
  | n => exact key hq
  | r => exact key hq
theorem W_loopJ {s : S} {Q : Ex → S → Prop} {c : C} {ks : List Nat} (J : S → Nat → Prop) (h₀ : ∃ s' n, le s s' ∧ J s' n)
    (h : ∀ s n, J s n → W P N c s (thenQ (fun s' => ∃ s'' m, m < n ∧ le s' s'' ∧ J s'' m) Q)) : W P N (loopL ks c) s Q := by
  intro hm code fz ht r nf G E x w hG hS
  obtain ⟨c1, rfl, h1⟩ := trC_loop ht
  obtain ⟨s0, n0, hs, hJ0⟩ := h₀
  obtain ⟨E₀, hS₀⟩ := hs G E x w hS
  have key : ∀ (I' : Act → World → Prop) (μ' : Act → World → Nat), (∀ a w, I' a w → ∃ s, J s (μ' a w) ∧ ∃ E, SatS G s E a w) →
      (∀ s n E a w, J s n → SatS G s E a w → I' a w ∧ μ' a w ≤ n) → (Code.loop c1).wpIn (W1 r) nf P (WX G Q) x w := by
    intro I' μ' hI1 hI2
    refine wpIn_loop I' μ' (hI2 s0 n0 E₀ x w hJ0 hS₀).1 (fun a' w' hI => ?_)
    obtain ⟨s1, hJ, E', hS'⟩ := hI1 a' w' hI
    refine wpIn_mono (h s1 _ hJ hm c1 fz h1 r nf G E' a' w' hG hS') (fun e a'' w'' hx => ?_)
    cases e <;> simp only [WX, thenQ] at hx <;> first
      | exact hx
      | exact hx.elim
      | (obtain ⟨s', E'', ⟨s'', m, hlt, hle, hJ2⟩, h4⟩ := hx
         obtain ⟨E3, h5⟩ := hle G E'' a'' w'' h4
         obtain ⟨h6, h7⟩ := hI2 s'' m E3 a'' w'' hJ2 h5
         exact ⟨h6, by omega⟩)
  let Ok (a : Act) (w : World) (n : Nat) : Prop := ∃ s E, J s n ∧ SatS G s E a w
  have hleast : ∀ a w, (∃ n, Ok a w n) → ∃ m, Ok a w m ∧ ∀ n, Ok a w n → m ≤ n := by
    intro a w ⟨n, hn⟩
    induction n using Nat.strongRecOn with
    | _ n ih =>
      by_cases hex : ∃ k, k < n ∧ Ok a w k
      · obtain ⟨k, hk, hok⟩ := hex
        exact ih k hk hok
      · exact ⟨n, hn, fun k hk => Nat.le_of_not_lt fun hlt => hex ⟨k, hlt, hk⟩⟩
  classical
  refine key (fun a w => ∃ n, Ok a w n) (fun a w => if hx : ∃ n, Ok a w n then Classical.choose (hleast a w hx) else 0) (fun a w hI => ?_) (fun s n E a w hi hS => ?_)
  · have hsp := Classical.choose_spec (hleast a w hI)
    obtain ⟨s, E, h3, h4⟩ := hsp.1
    refine ⟨s, ?_, E, h4⟩
    rw [dif_pos hI]; exact h3
  · have hex : ∃ n, Ok a w n := ⟨n, s, E, hi, hS⟩
    refine ⟨hex, ?_⟩
    rw [dif_pos hex]
    exact (Classical.choose_spec (hleast a w hex)).2 _ ⟨s, E, hi, hS⟩
theorem W_loopX {s : S} {Q : Ex → S → Prop} {c : C} {ks : List Nat} {ι : Type} (N0 : Nat) (f : ι → List (Nat × AV)) (B : ι → Mem) (I : ι → Prop) (μ : ι → Nat) (hB : ∀ i, I i → Bas N0 (B i)) {R : Mem} {nx : Nat} (hR : Opq N0 R nx) (i₀ : ι) (h₀ : I i₀)
    (he : keepL s.tm ks = putAll (keepL s.tm ks) (f i₀)) (hm : sameM (B i₀ ++ R) s.mem)
    (h : ∀ i R1 nx1, I i → Ext nx R nx1 R1 → W P N c ⟨putAll (keepL s.tm ks) (f i), B i ++ R1, nx1⟩ (thenQ (fun s' => ∃ i' R2, I i' ∧ μ i' < μ i ∧ keepL s'.tm ks = putAll (keepL s.tm ks) (f i') ∧ sameM (B i' ++ R2) s'.mem ∧ Ext nx1 R1 s'.nx R2) Q)) : W P N (loopL ks c) s Q := by
  have hno : ∀ i R1 nx1, I i → Ext nx R nx1 R1 → ∀ j, nx1 ≤ j → lm (B i ++ R1) j = none := fun i R1 nx1 hi hx j hj => by
    have := (hx.opq hR).n
    rw [lm_app_r (hB i hi j (by omega))]
    exact hx.hi j hj
  refine W_loopJ (fun s' n => ∃ i R1 nx1, I i ∧ Ext nx R nx1 R1 ∧ n = μ i ∧ s' = ⟨putAll (keepL s.tm ks) (f i), B i ++ R1, nx1⟩) ⟨⟨putAll (keepL s.tm ks) (f i₀), B i₀ ++ R, nx⟩, μ i₀, ?_, i₀, R, nx, h₀, Ext.refl hR, rfl, rfl⟩ (fun s' n hJ => ?_)
  · rw [← he]
    refine le.trans (leS.le (leS_sameM (B i₀ ++ R) nx hm (hno i₀ R nx h₀ (Ext.refl hR)))) ?_
    exact le_keepL (s := ⟨s.tm, B i₀ ++ R, nx⟩) ks nx (hno i₀ R nx h₀ (Ext.refl hR))
  · obtain ⟨i, R1, nx1, hi, hx, rfl, rfl⟩ := hJ
    refine W_mono' (h i R1 nx1 hi hx) fun e s'' hq => ?_
    cases e with
    | n =>
      obtain ⟨i', R2, h1, h2, h3, h4, h5⟩ := hq
      have h6 := hx.trans h5
      refine ⟨_, μ i', h2, ?_, i', R2, s''.nx, h1, h6, rfl, rfl⟩
      rw [← h3]
      refine le.trans (leS.le (leS_sameM (B i' ++ R2) s''.nx h4 (hno i' R2 s''.nx h1 h6))) ?_
      exact le_keepL (s := ⟨s''.tm, B i' ++ R2, s''.nx⟩) ks s''.nx (hno i' R2 s''.nx h1 h6)
    | e id => exact hq
    | r => exact hq
end
section
variable {P : Program} {r : Option Nat} {nf N : Nat} {fz : List Nat} {G : Gl} {ops : Array Oper} {rl : List RO} {ms : List Nat}
theorem reg_invJ (hG : G.N = N) (hrl : trL P N fz ops ops.toList = some rl) (hms : ms = masks ops.toList []) (hE : edgeOK 0 ops.toList = true) (St : (Nat → Bool) → S) {Q : Exit → Act → World → Prop}
    (hstep : ∀ (D : Nat → Bool) (i : Nat) ro m, rl[i]? = some ro → ms[i]? = some m → D i = false → (∀ j, tb m j → D j = true) → (∀ i' m', D i' = true → ms[i']? = some m' → ∀ j, tb m' j → D j = true) → chain P none [ro] (St D) (fun s' => le s' (St fun j => if j = i then true else D j)))
    (hend : ∀ D : Nat → Bool, (∀ j, j < rl.length → D j = true) → ∀ E a w, SatS G (St D) E a w → Q .normal a w) :
    ∀ (fuel : Nat) (listed : Array Bool) (E : Env) (a : Act) (w : World), unl listed ≤ fuel → LI ops ms listed → SatS G (St fun j => listed.getD j false) E a w → wpAnyIn (W1 r) nf P .any ops Q fuel listed a w := by
  obtain ⟨hl, hsp⟩ := trL_spec hrl
  have hlen : rl.length = ops.size := by rw [hl, Array.length_toList]
  have fin : ∀ (listed : Array Bool) (E : Env) (a : Act) (w : World), LI ops ms listed → Region.ready .any ops listed = [] → SatS G (St fun j => listed.getD j false) E a w → Q .normal a w := fun listed E a w inv hr hS =>
    hend _ (fun j hj => all_listed hE inv hr j j (Nat.le_refl _) (by omega)) E a w hS
  intro fuel
  induction fuel with
  | zero =>
    intro listed E a w hf inv hS
    exact ⟨ready_nil hf, fin listed E a w inv (ready_nil hf) hS⟩
  | succ fuel ih =>
    intro listed E a w hf inv hS
    refine ⟨fun hr => fin listed E a w inv hr hS, fun i hi => ?_⟩
    obtain ⟨hun, oi, hoi, hall⟩ := mem_ready.1 hi
    have hil : i < ops.size := (Array.getElem?_eq_some_iff.1 hoi).1
    have hunf := getD_ff hun
    obtain ⟨mi, hmi⟩ := masks_get hms hil
    obtain ⟨ro, hro, h2⟩ := hsp i oi (by simpa using hoi)
    have hc := hstep (fun j => listed.getD j false) i ro mi hro hmi hunf (fun j hj => (anc hms hE inv i i (Nat.le_refl _) oi mi hoi hmi hall j hj).2) (fun i' m' hi' hm' j hj => by
      have hi2 : i' < ops.size := by
        rcases Nat.lt_or_ge i' listed.size with q | q
        · rw [← inv.size]; exact q
        · simp [Array.getD, Nat.not_lt.2 q] at hi'
      have ho' : ops[i']? = some ops[i'] := Array.getElem?_eq_getElem hi2
      exact (anc hms hE inv i' i' (Nat.le_refl _) ops[i'] m' ho' hm' (inv.closed i' ops[i'] ho' hi') j hj).2)
    have hls : (fun j => if j = i then true else listed.getD j false) = (fun j => (listed.setIfInBounds i true).getD j false) := by
      funext j
      by_cases hij : j = i
      · subst hij
        have : j < listed.size := by rw [inv.size]; exact hil
        simp [this]
      · rw [if_neg hij, getD_set_ne false (Ne.symm hij)]
    rw [hls] at hc
    have hnext : ∀ s' E' a' w', le s' (St fun j => (listed.setIfInBounds i true).getD j false) → SatS G s' E' a' w' → wpAnyIn (W1 r) nf P .any ops Q fuel (listed.setIfInBounds i true) a' w' := fun s' E' a' w' hc' hS' => by
      obtain ⟨E2, h3⟩ := hc' G E' a' w' hS'
      exact ih _ E2 a' w' (by have := unl_set hun; omega) (inv.set hi) h3
    rcases chain_step hc with ⟨p, out, u, _, hok, hc'⟩ | ⟨_, p, hp, hu, hsp'⟩
    rotate_left
    · unfold wpOpIn
      simp only [hoi]
      exact sp_step hG h2 hS hp hu hsp' _ Q (fun s' E' a' w' hc' hS' => hnext s' E' a' w' (by rw [chain_nil] at hc'; exact hc') hS')
    have hslots : ∀ x, sat E w (ev (St fun j => listed.getD j false).tm x) (a.eval x) := fun x => ev_sat hS.st x (fun t _ => rfl)
    obtain ⟨f, hop⟩ := h2.op
    have hG1 : GOk P r nf G (lk (St fun j => listed.getD j false).tm) (lm (St fun j => listed.getD j false).mem) E a w ops oi (gdd p out) u := by
      refine gok_of hS.st h2.gd (by rw [← pathOf_eq]; exact hok.path) (fun g b hg => hslots _) hok.okU (fun hpc => ?_)
      refine hok.sem r nf G _ _ E a w oi ?_ hpc
      rw [stepP_eq]
      exact stepQ_sem hS.st (hS.nx _ (Nat.le_refl _)) hop hpc (fun x _ => hslots x) (by rw [← underAll_eq]; exact hok.under)
    unfold wpOpIn
    simp only [hoi]
    refine hG1 _ Q (fun E' w' v h3 h4 h5 => ?_)
    have hS' := satS_app (dst := oi.dst) (p := p) hS.nx h4 h5 hok.okU (fun d hd => by rw [hG]; exact h2.lt d hd)
    rw [h2.dst] at hc'
    rw [chain_nil] at hc'
    exact hnext _ E' _ w' hc' hS'
end
section
variable {P : Program} {N : Nat} {s : S} {Q : Ex → S → Prop}
theorem W_regJ {ms : List Nat} {rl : List RO} {ks : List Nat} (St : (Nat → Bool) → S) (hs : le s (St fun _ => false))
    (hstep : ∀ (D : Nat → Bool) (i : Nat) ro m, rl[i]? = some ro → ms[i]? = some m → D i = false → (∀ j, tb m j → D j = true) → (∀ i' m', D i' = true → ms[i']? = some m' → ∀ j, tb m' j → D j = true) → chain P none [ro] (St D) (fun s' => le s' (St fun j => if j = i then true else D j)))
    (hend : ∀ D : Nat → Bool, (∀ j, j < rl.length → D j = true) → ∃ s', le (St D) s' ∧ Q .n (s'.keep ks)) : W P N (regL ks (some ms) rl) s Q := by
  intro hm code fz ht r nf G E x w hG hS
  obtain ⟨id, ops, d, rfl, hrl, hd⟩ := trC_reg ht
  rcases hd with ⟨rfl, hx⟩ | ⟨rfl, hx, hE, hO⟩
  · cases hx
  · cases hx
    refine wpIn_region_any hm ?_
    have hrep : ∀ j, (Array.replicate ops.size false).getD j false = false := fun j => by
      rcases Nat.lt_or_ge j ops.size with h | h
      · simp [h]
      · simp [h]
    have hf : (fun j => (Array.replicate ops.size false).getD j false) = fun _ => false := funext hrep
    obtain ⟨E0, hS0⟩ := hs G E x _ ⟨hS.st.drew, hS.nx⟩
    refine reg_invJ hG.1 hrl rfl hE St hstep (fun D hD E a w hS' => ?_) ops.size _ E0 x _ (by simp [unl]) ⟨by simp, fun j oj hj hl => by rw [hrep] at hl; cases hl⟩ (by rw [hf]; exact hS0)
    obtain ⟨s', h1, h2⟩ := hend D hD
    obtain ⟨E2, h3⟩ := h1 G E a w hS'
    exact ⟨_, E2, h2, keep_sat ks h3⟩
end
end Sy

namespace Sy
open Go Go.RowKit
set_option linter.unusedVariables false
end Sy

namespace Sy
open Go Go.RowKit
set_option linter.unusedVariables false
set_option linter.unusedSimpArgs false
theorem Ext.put {a nx b nx2 : Nat} {R R2 : Mem} {g : Blk} (h : Ext a R nx R2) (h1 : a ≤ b) (h2 : b < nx2) (h3 : nx ≤ nx2) : Ext a R nx2 (setm R2 b g) :=
  ⟨Nat.le_trans h.n h3, fun j hj => by rw [lm_set_other _ _ (by omega)]; exact h.eq j hj, fun j hj => by rw [lm_set_other _ _ (by omega)]; exact h.hi j (by omega)⟩
theorem Inl_adopt {P : Program} {f : Nat} (T n : Nat) {α : Type} (d : α) (F : α → List AV) (hn : 0 < n) {rest : List AV} {s : S} {K : AV → S → Prop} (h : Inl P f (.row s.nx 0 :: rest) ⟨s.tm, (s.nx, .row 0 T n d F []) :: s.mem, s.nx + 1⟩ K) : Inl P f (.v (.slice none 0 0) :: rest) s K := by
  refine ⟨h.1, fun G E a w vs hS hT => ?_⟩
  have hfr := hS.st.fresh s.nx (hS.nx _ (Nat.le_refl _))
  let E' : Env := ⟨E.b, fun k s' => if k = s.nx ∧ s' = 0 then some (none, 0, 0) else E.h k s', E.F⟩
  have hE : E.le E' := ⟨fun _ _ h => h, fun k s' x h => by
    by_cases hk : k = s.nx ∧ s' = 0
    · obtain ⟨rfl, rfl⟩ := hk
      rw [hfr.2 0] at h; cases h
    · simp only [E', if_neg hk]; exact h, fun _ h => h⟩
  have hold : ∀ k, k ≠ s.nx → E'.b k = E.b k ∧ ∀ s', E'.h k s' = E.h k s' := fun k hk => ⟨rfl, fun s' => by simp only [E']; rw [if_neg (fun h => hk h.1)]⟩
  have h0 : E'.h s.nx 0 = some (none, 0, 0) := by simp [E']
  have hlm : ∀ k, lm ((s.nx, Blk.row 0 T n d F []) :: s.mem) k = upd (lm s.mem) s.nx (some (.row 0 T n d F [])) k := fun k => by simp only [lm, upd]
  refine h.2 G E' a w vs ⟨?_, fun k hk => ?_⟩ ?_
  · have step := hS.st.step s.nx (.row 0 T n d F []) E' w hE (fun _ _ => rfl) (KeepsOthers.refl w) hS.st.ext hS.st.fz hold
      (fun k blk b hk hm hb => ⟨rfl, hS.st.nF k blk b hm hb⟩)
      ⟨(none, 0, 0), [], h0, ⟨by simp, .inl ⟨rfl, rfl⟩⟩, hn, fun i x hx => by simp at hx⟩
      (fun b hb => by simp [blkLoc, h0, hv, Value.ownBlock] at hb)
      (fun l s' h => by cases h)
      (fun s1 e n' α' d' f' l' h => by
        cases h
        exact ⟨hfr.1, fun s' hs => by simp only [E']; rw [if_neg (fun h => by omega)]; exact hfr.2 s'⟩)
    have e1 : lm ((s.nx, Blk.row 0 T n d F []) :: s.mem) = upd (lm s.mem) s.nx (some (.row 0 T n d F [])) := funext hlm
    show Sat G (lk s.tm) (lm ((s.nx, Blk.row 0 T n d F []) :: s.mem)) E' a w
    rw [e1]
    exact step
  · have hk' : s.nx + 1 ≤ k := hk
    show lm ((s.nx, Blk.row 0 T n d F []) :: s.mem) k = none
    simp only [lm]
    rw [if_neg (by omega)]
    exact hS.nx k (by omega)
  · simp only [satT] at hT ⊢
    obtain ⟨x, xs, rfl, h1, h2⟩ := hT
    refine ⟨x, xs, rfl, ?_, satT_mono hE (fun _ _ => rfl) rest xs h2⟩
    simp only [sat] at h1 ⊢
    exact ⟨_, h0, by rw [h1]; rfl⟩
section
variable {P : Program} {N : Nat}
theorem Inl_opqE {f : Nat} {c : C} {np : Nat} {rv : List RV} (hm : P.follows .mixedOrders = true) (ht : Text P f c N np rv) {raw : List AV} (hn : raw.length = np) {N0 nx : Nat} {B R : Mem} {tm : List (Nat × AV)} (hR : Opq N0 R nx) (hB : Bas N0 B) {K : AV → Mem → Prop}
    (h : ∀ R' nx', Opq N0 R' nx' → nx < nx' → (∀ j, j < nx → lm R' j = lm R j) → W P N c ⟨initT 0 raw, B ++ R', nx'⟩ (FinX N0 rv nx' R' K)) : Inl P f raw ⟨tm, B ++ R, nx⟩ (MidX N0 tm nx R K) := by
  have hBn : lm B nx = none := hB nx hR.n
  refine Inl_le' (Inl_of_W hm ht hn (K := MidX N0 tm nx R K) (fun vs => ?_)) (fun r s' h => ⟨s', h, leS.refl _⟩)
  have hp := hR.push (.oth (.fr vs tm))
  refine W_le (leS.le (leS_same (B ++ (nx, Blk.oth (.fr vs tm)) :: R) (nx + 1) (fun k => lm_back B R _ hBn k) (hp.mem hB))) ?_
  refine W_mono' (h _ _ hp (Nat.lt_succ_self _) (fun j hj => by simp only [lm]; rw [if_neg (by omega)])) (fun e s' hq => ?_)
  have key : (∃ xs B' R2, resOK s' rv xs ∧ sameM (B' ++ R2) s'.mem ∧ Bas N0 B' ∧ Ext (nx + 1) ((nx, Blk.oth (.fr vs tm)) :: R) s'.nx R2 ∧ K (pack xs) B') → ∃ xs tmc, resOK s' rv xs ∧ lm s'.mem nx = some (.oth (.fr vs tmc)) ∧ MidX N0 tm nx R K (pack xs) ⟨tmc, delm s'.mem nx, s'.nx⟩ := by
    rintro ⟨xs, B', R2, h1, h2, h3, h4, h5⟩
    have hBn' : lm B' nx = none := h3 nx hR.n
    have hRn : lm R2 nx = some (.oth (.fr vs tm)) := by rw [h4.eq nx (Nat.lt_succ_self _)]; simp [lm]
    refine ⟨xs, tm, h1, by rw [← h2 nx, lm_app_r hBn', hRn], B', delm R2 nx, s'.nx, h3, ⟨by have := h4.n; omega, fun j hj => ?_, fun j hj => ?_⟩, h5, ?_⟩
    · rw [lm_delm, if_neg (by omega), h4.eq j (by omega)]
      simp only [lm]
      rw [if_neg (by omega)]
    · rw [lm_delm]
      split
      · rfl
      · exact h4.hi j hj
    · have hx : ∀ j, lm (B' ++ delm R2 nx) j = lm (delm s'.mem nx) j := fun j => by
        rw [lm_delm, ← h2 j]
        by_cases q : j = nx
        · rw [if_pos q, q, lm_app_r hBn', lm_delm, if_pos rfl]
        · rw [if_neg q]
          cases hb : lm B' j with
          | none => rw [lm_app_r hb, lm_app_r hb, lm_delm, if_neg q]
          | some b => rw [lm_app, lm_app, hb]
      refine leS_same (s := ⟨tm, delm s'.mem nx, s'.nx⟩) _ _ hx (fun j hj => ?_)
      have := h4.n
      have := hR.n
      rw [lm_app_r (h3 j (by omega)), lm_delm]
      split
      · rfl
      · exact h4.hi j hj
  cases e with
  | e id => exact hq.elim
  | n => exact key hq
  | r => exact key hq
end
end Sy

