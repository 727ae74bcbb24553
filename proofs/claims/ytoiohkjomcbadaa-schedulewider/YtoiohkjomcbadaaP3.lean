/- Part 3 of the proof of: For all valid jobs of at most eight tasks: with a wider window, a lesser lag or a link less the job still has an earliest plan, and no start of it is later: the law ScheduleWider holds. -/
import Derived.Test.YtoiohkjomcbadaaP2
import Derived.Shelf.Sort.Plain
import Derived.Shelf.Slices.In.SortNone
namespace Sy
open Go Go.RowKit
set_option linter.unusedVariables false
theorem Inl_put {P : Program} {f : Nat} (hb : hasBody P f = true) {s : S} {k st T n : Nat} {α : Type} {d : α} {F : α → List AV} {l l' : List α} (hk : lm s.mem k = some (.row st T n d F l)) (hn : 0 < n) {ys : List Value}
    (h : ∀ (B : Nat) (Fz : Nat → Prop) (w : World) (hh : Hd) (xs : List Value), w.ownsRow B T n (hv hh) l.length xs → rowSat Fz w n F l xs → Calls P f (hv hh :: ys).toArray w fun e w' => ∃ (xs' : List Value), e = .returned (.tuple #[]) ∧ w'.ownsRow B T n (hv hh) l'.length xs' ∧ w.grownBy w' (hv hh).ownBlock ∧ rowSat Fz w n F l' xs')
    {K : AV → S → Prop} (hK : K (.tup []) ⟨s.tm, setm s.mem k (.row st T n d F l'), s.nx⟩) : Inl P f (.row k st :: ys.map .v) s K := by
  refine ⟨hb, fun G E a w vs hS hT => ?_⟩
  simp only [satT, sat] at hT
  obtain ⟨y, zs, rfl, ⟨hh, e1, rfl⟩, hT⟩ := hT
  obtain rfl := satT_consts hT
  obtain ⟨v, xs, e2, hown, _, hrow⟩ := hS.st.memv k _ hk
  rw [e1] at e2
  cases e2
  refine (h G.w0.heap.size E.F w hh xs hown hrow).mono ?_
  rintro e w' ⟨xs', rfl, hown', hg, hrow'⟩
  have S := hS.st
  have hst := S.stampR k st T n α d F l hk
  have hwas : ∀ b, (hv hh).ownBlock = some b → blkLoc E k (.row st T n d F l) = some b := fun b hb => by simp only [blkLoc, e1, Option.bind_some]; exact hb
  have hnF : ∀ b, E.F b → (hv hh).ownBlock ≠ some b := fun b hF he => S.nF k _ b hk (hwas b he) hF
  have hlt : ∀ k blk b, lm s.mem k = some blk → blkLoc E k blk = some b → b < w.heap.size := fun k blk b hk hb => (blkLoc_lt blk (S.memv k blk hk) b hb).2
  have hrowge : ∀ b, (hv hh).ownBlock = some b → G.w0.heap.size ≤ b := fun b he => (blkLoc_lt _ (S.memv k _ hk) b (hwas b he)).1
  have hFs : ∀ b, E.F b → w'.heap[b]? = w.heap[b]? := fun b hF => hg.block b (S.fz b hF).1 (fun he => hnF b hF he.symm)
  refine ⟨_, .tup [], _, E, rfl, hK, ⟨?_, fun j hj => ?_⟩, by simp only [sat, satT]; exact ⟨[], rfl, rfl⟩⟩
  · show Sat G (lk s.tm) (lm (setm s.mem k (.row st T n d F l'))) E a w'
    rw [lm_setm]
    refine S.step k (.row st T n d F l') E w' (Env.le.refl E) hFs (KeepsOthers.of_grownBy hg (fun j o he ho => blkLoc_cells _ rfl (S.memv k _ hk) j (hwas j he) o ho)) ?_ ?_ (fun k' hk => ⟨rfl, fun s' => rfl⟩) (fun k' blk b hk' hm hb => ⟨?_, S.nF k' blk b hm hb⟩) ?_ ?_ ?_ ?_
    · exact ⟨hg.os.trans S.ext.os, hg.tape.trans S.ext.tape, hg.output.trans S.ext.output, Nat.le_trans S.ext.size hg.size, fun i hi => (hg.block i (Nat.lt_of_lt_of_le hi S.ext.size) (fun he => by have := hrowge i he.symm; omega)).trans (S.ext.block i hi)⟩
    · intro b hF
      exact ⟨Nat.lt_of_lt_of_le (S.fz b hF).1 hg.size, (S.fz b hF).2⟩
    · refine hg.block b (hlt k' blk b hm hb) (fun he => hk' ?_)
      exact S.inj k' k blk _ b hm hk hb (hwas b he.symm)
    · refine ⟨hh, xs', e1, hown', hn, fun i x hx => ?_⟩
      obtain ⟨h1, h2⟩ := hrow' i x hx
      exact ⟨h1, fsatL_mono (fun _ h => h) hFs _ _ h2⟩
    · intro b hb
      have hb' : (hv hh).ownBlock = some b := by simpa [blkLoc, e1] using hb
      exact ⟨hnF b |> fun q hF => q hF hb', fun k' blk hk' hm he => hk' (S.inj k' k blk _ b hm hk he (hwas b hb'))⟩
    · intro l' s' he; cases he
    · intro s1 e' n' α' d' f' l' he
      cases he
      exact hst
  · have hkn : k < s.nx := by
      rcases Nat.lt_or_ge k s.nx with h1 | h1
      · exact h1
      · rw [hS.nx k h1] at hk; cases hk
    have hj' : s.nx ≤ j := hj
    show lm (setm s.mem k _) j = none
    rw [lm_set_other _ _ (by omega)]
    exact hS.nx j hj'
end Sy

namespace Sy
open Go Go.RowKit Go.Sort Go.Shelf
set_option linter.unusedVariables false
theorem sortI_len (l : List Int) : (l.mergeSort fun x y => decide (x ≤ y)).length = l.length := List.length_mergeSort l
theorem Inl_sortI {P : Program} {ρ : Ren} (L : Go.Proofs.Lays.n189 P ρ) (hb : hasBody P (ρ.f 189) = true) {s : S} {k st T : Nat} {d : Int} {F : Int → List AV} {l : List Int} (hF : ∀ x, F x = [.v (.int .i64 x)])
    (hk : lm s.mem k = some (.row st T 1 d F l)) (hsz : l.length < 4611686018427387904) {K : AV → S → Prop} (hK : K (.tup []) ⟨s.tm, setm s.mem k (.row st T 1 d F (l.mergeSort fun x y => decide (x ≤ y))), s.nx⟩) : Inl P (ρ.f 189) [.row k st] s K := by
  refine Inl_put hb hk (by omega) (ys := []) (fun B Fz w hh xs hown hrow => ?_) hK
  obtain ⟨hxl, hcase⟩ := hown
  have hrs : ∀ (m : List Int), rowSat Fz w 1 F m (m.map (Value.int .i64)) := fun m i x hx => by
    rw [hF]
    refine ⟨rfl, ?_⟩
    have h1 := (List.getElem?_eq_some_iff.1 hx).1
    have h2 : (m.map (Value.int .i64)).drop i = .int .i64 x :: (m.map (Value.int .i64)).drop (i + 1) := by
      rw [List.drop_eq_getElem_cons (by simpa using h1)]
      congr 1
      rw [List.getElem_map]
      congr 1
      exact (List.getElem?_eq_some_iff.1 hx).2
    rw [Nat.mul_one, h2]
    simp only [List.take_succ_cons, List.take_zero, fsatL, fsat]
    exact ⟨_, [], rfl, rfl, rfl, rfl⟩
  rcases hcase with ⟨h1, h0⟩ | ⟨g, cap, cur, e1, e2, e3, e4, e5, e6, e7⟩
  · obtain rfl := List.length_eq_zero_iff.1 h0
    rw [h1]
    refine (Go.Proofs.Any.slices_Sort_int_none L none 0 w).mono ?_
    rintro e w' ⟨rfl, rfl⟩
    refine ⟨[], rfl, ⟨by simp, .inl ⟨rfl, by simp⟩⟩, ⟨rfl, rfl, rfl, Nat.le_refl _, fun _ _ _ => rfl⟩, fun i x hx => by simp at hx⟩
  rw [e1]
  have hlt : g < w.heap.size := (Array.getElem?_eq_some_iff.1 e3).1
  have hxs : ∀ j (hj : j < l.length), cur.toList[j]? = some (.int .i64 l[j]) := fun j hj => by
    obtain ⟨_, q⟩ := hrow j l[j] (List.getElem?_eq_getElem hj)
    rw [hF] at q
    simp only [fsatL, fsat] at q
    obtain ⟨y, ys, q1, _, rfl, rfl⟩ := q
    have : xs[j]? = some (.int .i64 l[j]) := by
      have h := congrArg (fun z => z[0]?) q1
      simp only [List.getElem?_take, List.getElem?_drop, Nat.mul_one, Nat.add_zero] at h
      simpa using h
    rw [← e7, List.getElem?_take] at this
    rw [if_pos (by omega)] at this
    exact this
  have hH : Holds (Value.int .i64) w g 0 l.toArray := fun j hj => by
    have hj' : j < l.length := by simpa using hj
    refine ⟨?_, by simp [World.frozen?, e3]⟩
    rw [Nat.zero_add]
    have h := hxs j hj'
    simp only [World.cell?, e3]
    rw [getElem!_pos _ j hj]
    simpa using h
  refine (Go.Proofs.Any.slices_Sort_int L g 0 cap l w hH hlt hsz).mono ?_
  rintro e w' ⟨rfl, n, os, rfl⟩
  generalize hm : (l.mergeSort fun x y => decide (x ≤ y)) = m at *
  have hlm : m.length = l.length := by rw [← hm]; exact sortI_len l
  have hat : (grow (putRow (Value.int .i64) (Sort.ahead w n) g 0 m.toArray) os).heap[g]? = some (.cells (putCells (Value.int .i64) 0 m.toArray cur) T (0, 0)) := by
    show ((w.heap.modify g (onCells (putCells (Value.int .i64) 0 m.toArray))) ++ os)[g]? = _
    rw [Array.getElem?_append_left (by simpa using hlt), Array.getElem?_modify, if_pos rfl, e3]
    rfl
  have hget : ∀ j (hj : j < m.length), (putCells (Value.int .i64) 0 m.toArray cur).toList[j]? = some (.int .i64 m[j]) := fun j hj => by
    have hc : j < cur.size := by omega
    simp only [putCells, Array.getElem?_toList, Array.getElem?_mapIdx, Array.getElem?_eq_getElem hc, Option.map_some]
    rw [if_pos ⟨by omega, by simp; omega⟩, Nat.sub_zero, getElem!_pos _ j (by simpa using hj)]
    simp
  refine ⟨m.map (Value.int .i64), rfl, ⟨by simp, .inr ⟨g, cap, _, by rw [hlm], e2, hat, by omega, e5, by simp [putCells]; omega, ?_⟩⟩, ?_, hrs m⟩
  · apply List.ext_getElem?
    intro j
    rw [List.getElem?_take, Nat.mul_one]
    by_cases hj : j < m.length
    · rw [if_pos hj, hget j hj, List.getElem?_map, List.getElem?_eq_getElem hj]; rfl
    · rw [if_neg hj, List.getElem?_eq_none (by simpa using hj)]
  · refine ⟨rfl, rfl, rfl, by simp [grow, putRow, mapBlock, Sort.ahead], fun b hb hne => ?_⟩
    have hbg : g ≠ b := fun q => hne (by rw [q]; rfl)
    have hb' : b < w.heap.size := hb
    show ((w.heap.modify g (onCells (putCells (Value.int .i64) 0 m.toArray))) ++ os)[b]? = _
    rw [Array.getElem?_append_left (by simpa using hb'), Array.getElem?_modify, if_neg hbg]
end Sy

namespace Sy
open Go Go.RowKit
set_option linter.unusedVariables false
set_option linter.unusedSimpArgs false
structure Ext (nx : Nat) (R : Mem) (nx2 : Nat) (R2 : Mem) : Prop where
  n : nx ≤ nx2
  eq : ∀ j, j < nx → lm R2 j = lm R j
  hi : ∀ j, nx2 ≤ j → lm R2 j = none
theorem Ext.refl {N0 nx : Nat} {R : Mem} (h : Opq N0 R nx) : Ext nx R nx R := ⟨Nat.le_refl _, fun _ _ => rfl, h.hi⟩
theorem Ext.trans {a b c : Nat} {A B C : Mem} (h : Ext a A b B) (k : Ext b B c C) : Ext a A c C :=
  ⟨Nat.le_trans h.n k.n, fun j hj => (k.eq j (Nat.lt_of_lt_of_le hj h.n)).trans (h.eq j hj), k.hi⟩
theorem Ext.opq {N0 nx nx2 : Nat} {R R2 : Mem} (h : Ext nx R nx2 R2) (k : Opq N0 R nx) : Opq N0 R2 nx2 :=
  ⟨Nat.le_trans k.n h.n, fun j hj => (h.eq j (Nat.lt_of_lt_of_le hj k.n)).trans (k.lo j hj), h.hi⟩
theorem Ext.push {a nx b nx2 : Nat} {R R2 : Mem} {g : Blk} (h : Ext a R nx R2) (h1 : nx ≤ b) (h2 : b < nx2) : Ext a R nx2 ((b, g) :: R2) :=
  ⟨by have := h.n; omega, fun j hj => by have := h.n; simp only [lm]; rw [if_neg (by omega)]; exact h.eq j hj, fun j hj => by simp only [lm]; rw [if_neg (by omega)]; exact h.hi j (by omega)⟩
theorem Ext.set {a nx b nx2 : Nat} {R R2 : Mem} {g : Blk} (h : Ext a R nx R2) (h1 : nx ≤ b) (h2 : b < nx2) : Ext a R nx2 (setm R2 b g) :=
  ⟨by have := h.n; omega, fun j hj => by have := h.n; rw [lm_set_other _ _ (by omega)]; exact h.eq j hj, fun j hj => by rw [lm_set_other _ _ (by omega)]; exact h.hi j (by omega)⟩
theorem Ext.up {a nx nx2 : Nat} {R R2 : Mem} (h : Ext a R nx R2) (h1 : nx ≤ nx2) : Ext a R nx2 R2 := ⟨Nat.le_trans h.n h1, h.eq, fun j hj => h.hi j (by omega)⟩
theorem Ext.dn {a a' b : Nat} {A B : Mem} (h : Ext a' A b B) (ha : a ≤ a') : Ext a A b B := ⟨Nat.le_trans ha h.n, fun j hj => h.eq j (Nat.lt_of_lt_of_le hj ha), h.hi⟩
def sameM (m m' : Mem) : Prop := ∀ k, lm m k = lm m' k
theorem sameM.refl (m : Mem) : sameM m m := fun _ => rfl
theorem sameM.trans {a b c : Mem} (h : sameM a b) (k : sameM b c) : sameM a c := fun j => (h j).trans (k j)
theorem sameM.cons {n : Nat} {g : Blk} {a b : Mem} (h : sameM a b) : sameM ((n, g) :: a) ((n, g) :: b) := fun k => by simp only [lm]; rw [h k]
theorem leS_sameM {s : S} (m : Mem) (nx : Nat) (h : sameM m s.mem) (hn : ∀ k, nx ≤ k → lm m k = none) : leS s ⟨s.tm, m, nx⟩ := leS_same m nx h hn
theorem Inl_sameM {P : Program} {f : Nat} {raw : List AV} {s : S} {K : AV → S → Prop} (m : Mem) (nx : Nat) (h : sameM m s.mem) (hn : ∀ k, nx ≤ k → lm m k = none) (hI : Inl P f raw ⟨s.tm, m, nx⟩ K) : Inl P f raw s K := by
  refine ⟨hI.1, fun G E a w vs hS hT => ?_⟩
  exact hI.2 G E a w vs (leS_sameM m nx h hn G E a w hS) hT
theorem ne_l {k s : Nat} (h : k < s) : (k = s) = False := eq_false (by omega)
theorem ne_r {k s : Nat} (h : s < k) : (k = s) = False := eq_false (by omega)
section
variable {P : Program} {N : Nat}
def FinX (N0 : Nat) (rv : List RV) (nx : Nat) (R : Mem) (K : AV → Mem → Prop) : Ex → S → Prop
  | .e _, _ => False
  | _, s' => ∃ xs B' R2, resOK s' rv xs ∧ sameM (B' ++ R2) s'.mem ∧ Bas N0 B' ∧ Ext nx R s'.nx R2 ∧ K (pack xs) B'
def MidX (N0 : Nat) (tm : List (Nat × AV)) (nx : Nat) (R : Mem) (K : AV → Mem → Prop) (r : AV) (s' : S) : Prop := ∃ B' R2 nx2, Bas N0 B' ∧ Ext nx R nx2 R2 ∧ K r B' ∧ leS s' ⟨tm, B' ++ R2, nx2⟩
theorem Inl_opq {f : Nat} {c : C} {np : Nat} {rv : List RV} (hm : P.follows .mixedOrders = true) (ht : Text P f c N np rv) {raw : List AV} (hn : raw.length = np) {N0 nx : Nat} {B R : Mem} {tm : List (Nat × AV)} (hR : Opq N0 R nx) (hB : Bas N0 B) {K : AV → Mem → Prop}
    (h : ∀ R' nx', Opq N0 R' nx' → W P N c ⟨initT 0 raw, B ++ R', nx'⟩ (FinX N0 rv nx' R' K)) : Inl P f raw ⟨tm, B ++ R, nx⟩ (MidX N0 tm nx R K) := by
  have hBn : lm B nx = none := hB nx hR.n
  refine Inl_le' (Inl_of_W hm ht hn (K := MidX N0 tm nx R K) (fun vs => ?_)) (fun r s' h => ⟨s', h, leS.refl _⟩)
  have hp := hR.push (.oth (.fr vs tm))
  refine W_le (leS.le (leS_same (B ++ (nx, Blk.oth (.fr vs tm)) :: R) (nx + 1) (fun k => lm_back B R _ hBn k) (hp.mem hB))) ?_
  refine W_mono' (h _ _ hp) (fun e s' hq => ?_)
  have key : (∃ xs B' R2, resOK s' rv xs ∧ sameM (B' ++ R2) s'.mem ∧ Bas N0 B' ∧ Ext (nx + 1) ((nx, Blk.oth (.fr vs tm)) :: R) s'.nx R2 ∧ K (pack xs) B') → ∃ xs tmc, resOK s' rv xs ∧ lm s'.mem nx = some (.oth (.fr vs tmc)) ∧ MidX N0 tm nx R K (pack xs) ⟨tmc, delm s'.mem nx, s'.nx⟩ := by
    rintro ⟨xs, B', R2, h1, h2, h3, h4, h5⟩
    have hBn' : lm B' nx = none := h3 nx hR.n
    have hRn : lm R2 nx = some (.oth (.fr vs tm)) := by rw [h4.eq nx (Nat.lt_succ_self _)]; simp [lm]
    refine ⟨xs, tm, h1, by rw [← h2 nx, lm_app_r hBn', hRn], B', delm R2 nx, s'.nx, h3, ⟨by have := h4.n; omega, fun j hj => ?_, fun j hj => ?_⟩, h5, ?_⟩
    · rw [lm_delm, if_neg (by omega), h4.eq j (by omega)]
      simp only [lm]
      rw [if_neg (by omega)]
    · rw [lm_delm]
      split
      · rfl
      · exact h4.hi j hj
    · have hx : ∀ j, lm (B' ++ delm R2 nx) j = lm (delm s'.mem nx) j := fun j => by
        rw [lm_delm, ← h2 j]
        by_cases q : j = nx
        · rw [if_pos q, q, lm_app_r hBn', lm_delm, if_pos rfl]
        · rw [if_neg q]
          cases hb : lm B' j with
          | none => rw [lm_app_r hb, lm_app_r hb, lm_delm, if_neg q]
          | some b => rw [lm_app, lm_app, hb]
      refine leS_same (s := ⟨tm, delm s'.mem nx, s'.nx⟩) _ _ hx (fun j hj => ?_)
      have := h4.n
      have := hR.n
      rw [lm_app_r (h3 j (by omega)), lm_delm]
      split
      · rfl
      · exact h4.hi j hj
  cases e with
  | e id => exact hq.elim
  | n => exact key hq
  | r => exact key hq
theorem W_loopJ {s : S} {Q : Ex → S → Prop} {c : C} {ks : List Nat} (J : S → Nat → Prop) (h₀ : ∃ s' n, le s s' ∧ J s' n)
    (h : ∀ s n, J s n → W P N c s (thenQ (fun s' => ∃ s'' m, m < n ∧ le s' s'' ∧ J s'' m) Q)) : W P N (loopL ks c) s Q := by
  intro hm code fz ht r nf G E x w hG hS
  obtain ⟨c1, rfl, h1⟩ := trC_loop ht
  obtain ⟨s0, n0, hs, hJ0⟩ := h₀
  obtain ⟨E₀, hS₀⟩ := hs G E x w hS
  have key : ∀ (I' : Act → World → Prop) (μ' : Act → World → Nat), (∀ a w, I' a w → ∃ s, J s (μ' a w) ∧ ∃ E, SatS G s E a w) →
      (∀ s n E a w, J s n → SatS G s E a w → I' a w ∧ μ' a w ≤ n) → (Code.loop c1).wpIn (W1 r) nf P (WX G Q) x w := by
    intro I' μ' hI1 hI2
    refine wpIn_loop I' μ' (hI2 s0 n0 E₀ x w hJ0 hS₀).1 (fun a' w' hI => ?_)
    obtain ⟨s1, hJ, E', hS'⟩ := hI1 a' w' hI
    refine wpIn_mono (h s1 _ hJ hm c1 fz h1 r nf G E' a' w' hG hS') (fun e a'' w'' hx => ?_)
    cases e <;> simp only [WX, thenQ] at hx <;> first
      | exact hx
      | exact hx.elim
      | (obtain ⟨s', E'', ⟨s'', m, hlt, hle, hJ2⟩, h4⟩ := hx
         obtain ⟨E3, h5⟩ := hle G E'' a'' w'' h4
         obtain ⟨h6, h7⟩ := hI2 s'' m E3 a'' w'' hJ2 h5
         exact ⟨h6, by omega⟩)
  let Ok (a : Act) (w : World) (n : Nat) : Prop := ∃ s E, J s n ∧ SatS G s E a w
  have hleast : ∀ a w, (∃ n, Ok a w n) → ∃ m, Ok a w m ∧ ∀ n, Ok a w n → m ≤ n := by
    intro a w ⟨n, hn⟩
    induction n using Nat.strongRecOn with
    | _ n ih =>
      by_cases hex : ∃ k, k < n ∧ Ok a w k
      · obtain ⟨k, hk, hok⟩ := hex
        exact ih k hk hok
      · exact ⟨n, hn, fun k hk => Nat.le_of_not_lt fun hlt => hex ⟨k, hlt, hk⟩⟩
  classical
  refine key (fun a w => ∃ n, Ok a w n) (fun a w => if hx : ∃ n, Ok a w n then Classical.choose (hleast a w hx) else 0) (fun a w hI => ?_) (fun s n E a w hi hS => ?_)
  · have hsp := Classical.choose_spec (hleast a w hI)
    obtain ⟨s, E, h3, h4⟩ := hsp.1
    refine ⟨s, ?_, E, h4⟩
    rw [dif_pos hI]; exact h3
  · have hex : ∃ n, Ok a w n := ⟨n, s, E, hi, hS⟩
    refine ⟨hex, ?_⟩
    rw [dif_pos hex]
    exact (Classical.choose_spec (hleast a w hex)).2 _ ⟨s, E, hi, hS⟩
theorem W_loopX {s : S} {Q : Ex → S → Prop} {c : C} {ks : List Nat} {ι : Type} (N0 : Nat) (f : ι → List (Nat × AV)) (B : ι → Mem) (I : ι → Prop) (μ : ι → Nat) (hB : ∀ i, I i → Bas N0 (B i)) {R : Mem} {nx : Nat} (hR : Opq N0 R nx) (i₀ : ι) (h₀ : I i₀)
    (he : keepL s.tm ks = putAll (keepL s.tm ks) (f i₀)) (hm : sameM (B i₀ ++ R) s.mem)
    (h : ∀ i R1 nx1, I i → Ext nx R nx1 R1 → W P N c ⟨putAll (keepL s.tm ks) (f i), B i ++ R1, nx1⟩ (thenQ (fun s' => ∃ i' R2, I i' ∧ μ i' < μ i ∧ keepL s'.tm ks = putAll (keepL s.tm ks) (f i') ∧ sameM (B i' ++ R2) s'.mem ∧ Ext nx1 R1 s'.nx R2) Q)) : W P N (loopL ks c) s Q := by
  have hno : ∀ i R1 nx1, I i → Ext nx R nx1 R1 → ∀ j, nx1 ≤ j → lm (B i ++ R1) j = none := fun i R1 nx1 hi hx j hj => by
    have := (hx.opq hR).n
    rw [lm_app_r (hB i hi j (by omega))]
    exact hx.hi j hj
  refine W_loopJ (fun s' n => ∃ i R1 nx1, I i ∧ Ext nx R nx1 R1 ∧ n = μ i ∧ s' = ⟨putAll (keepL s.tm ks) (f i), B i ++ R1, nx1⟩) ⟨⟨putAll (keepL s.tm ks) (f i₀), B i₀ ++ R, nx⟩, μ i₀, ?_, i₀, R, nx, h₀, Ext.refl hR, rfl, rfl⟩ (fun s' n hJ => ?_)
  · rw [← he]
    refine le.trans (leS.le (leS_sameM (B i₀ ++ R) nx hm (hno i₀ R nx h₀ (Ext.refl hR)))) ?_
    exact le_keepL (s := ⟨s.tm, B i₀ ++ R, nx⟩) ks nx (hno i₀ R nx h₀ (Ext.refl hR))
  · obtain ⟨i, R1, nx1, hi, hx, rfl, rfl⟩ := hJ
    refine W_mono' (h i R1 nx1 hi hx) fun e s'' hq => ?_
    cases e with
    | n =>
      obtain ⟨i', R2, h1, h2, h3, h4, h5⟩ := hq
      have h6 := hx.trans h5
      refine ⟨_, μ i', h2, ?_, i', R2, s''.nx, h1, h6, rfl, rfl⟩
      rw [← h3]
      refine le.trans (leS.le (leS_sameM (B i' ++ R2) s''.nx h4 (hno i' R2 s''.nx h1 h6))) ?_
      exact le_keepL (s := ⟨s''.tm, B i' ++ R2, s''.nx⟩) ks s''.nx (hno i' R2 s''.nx h1 h6)
    | e id => exact hq
    | r => exact hq
end
section
variable {P : Program} {r : Option Nat} {nf N : Nat} {fz : List Nat} {G : Gl} {ops : Array Oper} {rl : List RO} {ms : List Nat}
theorem reg_invJ (hG : G.N = N) (hrl : trL P N fz ops ops.toList = some rl) (hms : ms = masks ops.toList []) (hE : edgeOK 0 ops.toList = true) (St : (Nat → Bool) → S) {Q : Exit → Act → World → Prop}
    (hstep : ∀ (D : Nat → Bool) (i : Nat) ro m, rl[i]? = some ro → ms[i]? = some m → D i = false → (∀ j, tb m j → D j = true) → (∀ i' m', D i' = true → ms[i']? = some m' → ∀ j, tb m' j → D j = true) → chain P none [ro] (St D) (fun s' => le s' (St fun j => if j = i then true else D j)))
    (hend : ∀ D : Nat → Bool, (∀ j, j < rl.length → D j = true) → ∀ E a w, SatS G (St D) E a w → Q .normal a w) :
    ∀ (fuel : Nat) (listed : Array Bool) (E : Env) (a : Act) (w : World), unl listed ≤ fuel → LI ops ms listed → SatS G (St fun j => listed.getD j false) E a w → wpAnyIn (W1 r) nf P .any ops Q fuel listed a w := by
  obtain ⟨hl, hsp⟩ := trL_spec hrl
  have hlen : rl.length = ops.size := by rw [hl, Array.length_toList]
  have fin : ∀ (listed : Array Bool) (E : Env) (a : Act) (w : World), LI ops ms listed → Region.ready .any ops listed = [] → SatS G (St fun j => listed.getD j false) E a w → Q .normal a w := fun listed E a w inv hr hS =>
    hend _ (fun j hj => all_listed hE inv hr j j (Nat.le_refl _) (by omega)) E a w hS
  intro fuel
  induction fuel with
  | zero =>
    intro listed E a w hf inv hS
    exact ⟨ready_nil hf, fin listed E a w inv (ready_nil hf) hS⟩
  | succ fuel ih =>
    intro listed E a w hf inv hS
    refine ⟨fun hr => fin listed E a w inv hr hS, fun i hi => ?_⟩
    obtain ⟨hun, oi, hoi, hall⟩ := mem_ready.1 hi
    have hil : i < ops.size := (Array.getElem?_eq_some_iff.1 hoi).1
    have hunf := getD_ff hun
    obtain ⟨mi, hmi⟩ := masks_get hms hil
    obtain ⟨ro, hro, h2⟩ := hsp i oi (by simpa using hoi)
    have hc := hstep (fun j => listed.getD j false) i ro mi hro hmi hunf (fun j hj => (anc hms hE inv i i (Nat.le_refl _) oi mi hoi hmi hall j hj).2) (fun i' m' hi' hm' j hj => by
      have hi2 : i' < ops.size := by
        rcases Nat.lt_or_ge i' listed.size with q | q
        · rw [← inv.size]; exact q
        · simp [Array.getD, Nat.not_lt.2 q] at hi'
      have ho' : ops[i']? = some ops[i'] := Array.getElem?_eq_getElem hi2
      exact (anc hms hE inv i' i' (Nat.le_refl _) ops[i'] m' ho' hm' (inv.closed i' ops[i'] ho' hi') j hj).2)
    have hls : (fun j => if j = i then true else listed.getD j false) = (fun j => (listed.setIfInBounds i true).getD j false) := by
      funext j
      by_cases hij : j = i
      · subst hij
        have : j < listed.size := by rw [inv.size]; exact hil
        simp [this]
      · rw [if_neg hij, getD_set_ne false (Ne.symm hij)]
    rw [hls] at hc
    have hnext : ∀ s' E' a' w', le s' (St fun j => (listed.setIfInBounds i true).getD j false) → SatS G s' E' a' w' → wpAnyIn (W1 r) nf P .any ops Q fuel (listed.setIfInBounds i true) a' w' := fun s' E' a' w' hc' hS' => by
      obtain ⟨E2, h3⟩ := hc' G E' a' w' hS'
      exact ih _ E2 a' w' (by have := unl_set hun; omega) (inv.set hi) h3
    rcases chain_step hc with ⟨p, out, u, _, hok, hc'⟩ | ⟨_, p, hp, hu, hsp'⟩
    rotate_left
    · unfold wpOpIn
      simp only [hoi]
      exact sp_step hG h2 hS hp hu hsp' _ Q (fun s' E' a' w' hc' hS' => hnext s' E' a' w' (by rw [chain_nil] at hc'; exact hc') hS')
    have hslots : ∀ x, sat E w (ev (St fun j => listed.getD j false).tm x) (a.eval x) := fun x => ev_sat hS.st x (fun t _ => rfl)
    obtain ⟨f, hop⟩ := h2.op
    have hG1 : GOk P r nf G (lk (St fun j => listed.getD j false).tm) (lm (St fun j => listed.getD j false).mem) E a w ops oi (gdd p out) u := by
      refine gok_of hS.st h2.gd (by rw [← pathOf_eq]; exact hok.path) (fun g b hg => hslots _) hok.okU (fun hpc => ?_)
      refine hok.sem r nf G _ _ E a w oi ?_ hpc
      rw [stepP_eq]
      exact stepQ_sem hS.st (hS.nx _ (Nat.le_refl _)) hop hpc (fun x _ => hslots x) (by rw [← underAll_eq]; exact hok.under)
    unfold wpOpIn
    simp only [hoi]
    refine hG1 _ Q (fun E' w' v h3 h4 h5 => ?_)
    have hS' := satS_app (dst := oi.dst) (p := p) hS.nx h4 h5 hok.okU (fun d hd => by rw [hG]; exact h2.lt d hd)
    rw [h2.dst] at hc'
    rw [chain_nil] at hc'
    exact hnext _ E' _ w' hc' hS'
end
section
variable {P : Program} {N : Nat} {s : S} {Q : Ex → S → Prop}
theorem W_regJ {ms : List Nat} {rl : List RO} {ks : List Nat} (St : (Nat → Bool) → S) (hs : le s (St fun _ => false))
    (hstep : ∀ (D : Nat → Bool) (i : Nat) ro m, rl[i]? = some ro → ms[i]? = some m → D i = false → (∀ j, tb m j → D j = true) → (∀ i' m', D i' = true → ms[i']? = some m' → ∀ j, tb m' j → D j = true) → chain P none [ro] (St D) (fun s' => le s' (St fun j => if j = i then true else D j)))
    (hend : ∀ D : Nat → Bool, (∀ j, j < rl.length → D j = true) → ∃ s', le (St D) s' ∧ Q .n (s'.keep ks)) : W P N (regL ks (some ms) rl) s Q := by
  intro hm code fz ht r nf G E x w hG hS
  obtain ⟨id, ops, d, rfl, hrl, hd⟩ := trC_reg ht
  rcases hd with ⟨rfl, hx⟩ | ⟨rfl, hx, hE, hO⟩
  · cases hx
  · cases hx
    refine wpIn_region_any hm ?_
    have hrep : ∀ j, (Array.replicate ops.size false).getD j false = false := fun j => by
      rcases Nat.lt_or_ge j ops.size with h | h
      · simp [h]
      · simp [h]
    have hf : (fun j => (Array.replicate ops.size false).getD j false) = fun _ => false := funext hrep
    obtain ⟨E0, hS0⟩ := hs G E x _ ⟨hS.st.drew, hS.nx⟩
    refine reg_invJ hG.1 hrl rfl hE St hstep (fun D hD E a w hS' => ?_) ops.size _ E0 x _ (by simp [unl]) ⟨by simp, fun j oj hj hl => by rw [hrep] at hl; cases hl⟩ (by rw [hf]; exact hS0)
    obtain ⟨s', h1, h2⟩ := hend D hD
    obtain ⟨E2, h3⟩ := h1 G E a w hS'
    exact ⟨_, E2, h2, keep_sat ks h3⟩
end
end Sy

namespace Sy
open Go Go.RowKit
set_option linter.unusedVariables false
end Sy

namespace Sy
open Go Go.RowKit
set_option linter.unusedVariables false
set_option linter.unusedSimpArgs false
theorem Ext.put {a nx b nx2 : Nat} {R R2 : Mem} {g : Blk} (h : Ext a R nx R2) (h1 : a ≤ b) (h2 : b < nx2) (h3 : nx ≤ nx2) : Ext a R nx2 (setm R2 b g) :=
  ⟨Nat.le_trans h.n h3, fun j hj => by rw [lm_set_other _ _ (by omega)]; exact h.eq j hj, fun j hj => by rw [lm_set_other _ _ (by omega)]; exact h.hi j (by omega)⟩
section
variable {P : Program} {N : Nat}
end
end Sy

namespace Sy
open Go Go.RowKit
set_option linter.unusedVariables false
set_option linter.unusedSimpArgs false
def VStep (P : Program) (N kr st0 : Nat) (h : Hd) (ro : RO) (s s' : S) : Prop :=
  ro.gp = none ∧ ∃ out u, okU [] s u ∧ leS (s.app ro.dst [] out u) s' ∧ ∀ (r : Option Nat) (nf : Nat) (G : Gl) (E : Env) (a : Act) (w : World) (oi : Oper) (fz : List Nat) (ops : Array Oper),
    TrO P N fz ops oi ro → SatS G s E a w → E.h kr st0 = some h → Ok1 P r nf G (lk s.tm) (lm s.mem) E a w oi out u
section
variable {P : Program} {r : Option Nat} {nf N : Nat} {fz : List Nat} {G : Gl} {ops : Array Oper} {rl : List RO} {ms : List Nat}
theorem reg_invV (hG : G.N = N) (hrl : trL P N fz ops ops.toList = some rl) (hms : ms = masks ops.toList []) (hE : edgeOK 0 ops.toList = true) (kr st0 : Nat) (h : Hd) (St : (Nat → Bool) → S) {Q : Exit → Act → World → Prop}
    (hstep : ∀ (D : Nat → Bool) (i : Nat) ro m, rl[i]? = some ro → ms[i]? = some m → D i = false → (∀ j, tb m j → D j = true) → (∀ i' m', D i' = true → ms[i']? = some m' → ∀ j, tb m' j → D j = true) →
      chain P (some ⟨[0], 0, []⟩) [ro] (St D) (fun s' => leS s' (St fun j => if j = i then true else D j)) ∨ VStep P N kr st0 h ro (St D) (St fun j => if j = i then true else D j))
    (hend : ∀ D : Nat → Bool, (∀ j, j < rl.length → D j = true) → ∀ E a w, SatS G (St D) E a w → Q .normal a w) :
    ∀ (fuel : Nat) (listed : Array Bool) (E : Env) (a : Act) (w : World), unl listed ≤ fuel → LI ops ms listed → SatS G (St fun j => listed.getD j false) E a w → E.h kr st0 = some h → wpAnyIn (W1 r) nf P .any ops Q fuel listed a w := by
  obtain ⟨hl, hsp⟩ := trL_spec hrl
  have hlen : rl.length = ops.size := by rw [hl, Array.length_toList]
  have fin : ∀ (listed : Array Bool) (E : Env) (a : Act) (w : World), LI ops ms listed → Region.ready .any ops listed = [] → SatS G (St fun j => listed.getD j false) E a w → Q .normal a w := fun listed E a w inv hr hS =>
    hend _ (fun j hj => all_listed hE inv hr j j (Nat.le_refl _) (by omega)) E a w hS
  intro fuel
  induction fuel with
  | zero =>
    intro listed E a w hf inv hS hH
    exact ⟨ready_nil hf, fin listed E a w inv (ready_nil hf) hS⟩
  | succ fuel ih =>
    intro listed E a w hf inv hS hH
    refine ⟨fun hr => fin listed E a w inv hr hS, fun i hi => ?_⟩
    obtain ⟨hun, oi, hoi, hall⟩ := mem_ready.1 hi
    have hil : i < ops.size := (Array.getElem?_eq_some_iff.1 hoi).1
    have hunf := getD_ff hun
    obtain ⟨mi, hmi⟩ := masks_get hms hil
    obtain ⟨ro, hro, h2⟩ := hsp i oi (by simpa using hoi)
    have hc := hstep (fun j => listed.getD j false) i ro mi hro hmi hunf (fun j hj => (anc hms hE inv i i (Nat.le_refl _) oi mi hoi hmi hall j hj).2) (fun i' m' hi' hm' j hj => by
      have hi2 : i' < ops.size := by
        rcases Nat.lt_or_ge i' listed.size with q | q
        · rw [← inv.size]; exact q
        · simp [Array.getD, Nat.not_lt.2 q] at hi'
      have ho' : ops[i']? = some ops[i'] := Array.getElem?_eq_getElem hi2
      exact (anc hms hE inv i' i' (Nat.le_refl _) ops[i'] m' ho' hm' (inv.closed i' ops[i'] ho' hi') j hj).2)
    have hls : (fun j => if j = i then true else listed.getD j false) = (fun j => (listed.setIfInBounds i true).getD j false) := by
      funext j
      by_cases hij : j = i
      · subst hij
        have : j < listed.size := by rw [inv.size]; exact hil
        simp [this]
      · rw [if_neg hij, getD_set_ne false (Ne.symm hij)]
    rw [hls] at hc
    have hnext : ∀ s' E' a' w', leS s' (St fun j => (listed.setIfInBounds i true).getD j false) → SatS G s' E' a' w' → E'.h kr st0 = some h → wpAnyIn (W1 r) nf P .any ops Q fuel (listed.setIfInBounds i true) a' w' := fun s' E' a' w' hc' hS' hH' =>
      ih _ E' a' w' (by have := unl_set hun; omega) (inv.set hi) (hc' G E' a' w' hS') hH'
    have hslots : ∀ x, sat E w (ev (St fun j => listed.getD j false).tm x) (a.eval x) := fun x => ev_sat hS.st x (fun t _ => rfl)
    rcases hc with hc | ⟨hgp, out, u, hu, hle, hok⟩
    · rcases chain_step hc with ⟨p, out, u, _, hok, hc'⟩ | ⟨hq, _⟩
      rotate_left
      · cases hq
      obtain ⟨f, hop⟩ := h2.op
      have hG1 : GOk P r nf G (lk (St fun j => listed.getD j false).tm) (lm (St fun j => listed.getD j false).mem) E a w ops oi (gdd p out) u := by
        refine gok_of hS.st h2.gd (by rw [← pathOf_eq]; exact hok.path) (fun g b hg => hslots _) hok.okU (fun hpc => ?_)
        refine hok.sem r nf G _ _ E a w oi ?_ hpc
        rw [stepP_eq]
        exact stepQ_sem hS.st (hS.nx _ (Nat.le_refl _)) hop hpc (fun x _ => hslots x) (by rw [← underAll_eq]; exact hok.under)
      unfold wpOpIn
      simp only [hoi]
      refine hG1 _ Q (fun E' w' v h3 h4 h5 => ?_)
      have hS' := satS_app (dst := oi.dst) (p := p) hS.nx h4 h5 hok.okU (fun d hd => by rw [hG]; exact h2.lt d hd)
      rw [h2.dst, chain_nil] at hc'
      exact hnext _ E' _ w' hc' hS' (h3.h _ _ _ hH)
    · have hG1 : GOk P r nf G (lk (St fun j => listed.getD j false).tm) (lm (St fun j => listed.getD j false).mem) E a w ops oi (gdd [] out) u := by
        refine gok_of hS.st h2.gd (by rw [← pathOf_eq, hgp]; rfl) (fun g b hg => hslots _) hu (fun hpc => ?_)
        exact hok r nf G E a w oi fz ops h2 hS hH
      unfold wpOpIn
      simp only [hoi]
      refine hG1 _ Q (fun E' w' v h3 h4 h5 => ?_)
      have hS' := satS_app (dst := oi.dst) (p := []) hS.nx h4 h5 hu (fun d hd => by rw [hG]; exact h2.lt d hd)
      rw [h2.dst] at hle
      exact hnext _ E' _ w' hle hS' (h3.h _ _ _ hH)
end
section
variable {P : Program} {N : Nat} {s : S} {Q : Ex → S → Prop}
theorem W_regV {ms : List Nat} {rl : List RO} {ks : List Nat} {kr st0 T n : Nat} {α : Type} {d : α} {F : α → List AV} {l : List α} (hmr : lm s.mem kr = some (.row st0 T n d F l)) (St : Hd → (Nat → Bool) → S) (hs : ∀ h, leS s (St h fun _ => false))
    (hstep : ∀ (h : Hd) (D : Nat → Bool) (i : Nat) ro m, rl[i]? = some ro → ms[i]? = some m → D i = false → (∀ j, tb m j → D j = true) → (∀ i' m', D i' = true → ms[i']? = some m' → ∀ j, tb m' j → D j = true) →
      chain P (some ⟨[0], 0, []⟩) [ro] (St h D) (fun s' => leS s' (St h fun j => if j = i then true else D j)) ∨ VStep P N kr st0 h ro (St h D) (St h fun j => if j = i then true else D j))
    (hend : ∀ (h : Hd) (D : Nat → Bool), (∀ j, j < rl.length → D j = true) → ∃ s', le (St h D) s' ∧ Q .n (s'.keep ks)) : W P N (regL ks (some ms) rl) s Q := by
  intro hm code fz ht r nf G E x w hG hS
  obtain ⟨id, ops, dd, rfl, hrl, hd⟩ := trC_reg ht
  rcases hd with ⟨rfl, hx⟩ | ⟨rfl, hx, hE, hO⟩
  · cases hx
  · cases hx
    refine wpIn_region_any hm ?_
    have hrep : ∀ j, (Array.replicate ops.size false).getD j false = false := fun j => by
      rcases Nat.lt_or_ge j ops.size with h | h
      · simp [h]
      · simp [h]
    have hf : (fun j => (Array.replicate ops.size false).getD j false) = fun _ => false := funext hrep
    obtain ⟨hh, xs, q1, _⟩ := hS.st.memv kr _ hmr
    have hS0 := hs hh G E x w.drew ⟨hS.st.drew, hS.nx⟩
    refine reg_invV hG.1 hrl rfl hE kr st0 hh (St hh) (hstep hh) (fun D hD E a w hS' => ?_) ops.size _ E x _ (by simp [unl]) ⟨by simp, fun j oj hj hl => by rw [hrep] at hl; cases hl⟩ (by rw [hf]; exact hS0) q1
    obtain ⟨s', h1, h2⟩ := hend hh D hD
    obtain ⟨E2, h3⟩ := h1 G E a w hS'
    exact ⟨_, E2, h2, keep_sat ks h3⟩
end
def subV (n : Nat) (h : Hd) (lo hi : Nat) : Value := .slice (if h.2.2 = lo then h.1 else h.1.map (·.add (lo * n))) (hi - lo) (h.2.2 - lo)
theorem slc_inv {P : Program} {fz : Bool} {op : Op} {T n : Nat} {x : Operand} {lo hi : Option Operand} (h : trR P fz op = some (.slc T n x lo hi)) : ∃ el, op = .slice T x lo hi none ∧ P.underlying T = some (.slice el) ∧ sizeB P el = some n := by
  have h0 : trR0 P fz op = some (.slc T n x lo hi) := by
    unfold trR at h
    cases hq : trR0 P fz op with
    | none => rw [hq] at h; simp at h
    | some r => rw [hq] at h; simpa using h
  clear h
  unfold trR0 at h0
  split at h0
  all_goals first
    | (cases h0; done)
    | (repeat' split at h0) <;> first | (cases h0; exact ⟨_, rfl, by assumption, by assumption⟩) | (cases h0; done)
theorem app_inv {P : Program} {fz : Bool} {op : Op} {T n b : Nat} {x y : Operand} (h : trR P fz op = some (.app T n b x y)) : ∃ t, op = .call { callee := .builtin .append, args := #[x, y], argTypes := #[t, t] } ∧ AppT P t T n b := by
  have h0 : trR0 P fz op = some (.app T n b x y) := by
    unfold trR at h
    cases hq : trR0 P fz op with
    | none => rw [hq] at h; simp at h
    | some r => rw [hq] at h; simpa using h
  clear h
  unfold trR0 at h0
  split at h0
  all_goals first
    | (cases h0; done)
    | (repeat' split at h0) <;> first | (cases h0; subst_vars; exact ⟨_, rfl, ⟨⟨_, _, by assumption, by assumption, by assumption, rfl, rfl, by assumption⟩⟩⟩) | (cases h0; done)
section
variable {P : Program} {r : Option Nat} {nf : Nat} {G : Gl} {tm : Nat → AV} {mem : Nat → Option Blk} {E : Env} {a : Act} {w : World} {o : Oper}
theorem ok1_sub (S : Sat G tm mem E a w) {t el n : Nat} {x : Operand} {lo hi : Option Operand} (ht : P.underlying t = some (.slice el)) (hsz : sizeB P el = some n) (ho : o.op = .slice t x lo hi none)
    {h : Hd} (h8 : a.eval x = hv h) (lo' hi' : Nat) (h1 : lo' ≤ hi') (h2 : hi' ≤ h.2.1) (hc : h.2.1 ≤ h.2.2)
    (h3 : (lo = none ∧ lo' = 0) ∨ ∃ y kd j, lo = some y ∧ a.eval y = .int kd j ∧ 0 ≤ j ∧ lo' = j.toNat) (h4 : (hi = none ∧ hi' = h.2.1) ∨ ∃ y kd j, hi = some y ∧ a.eval y = .int kd j ∧ 0 ≤ j ∧ hi' = j.toNat) :
    Ok1 P r nf G tm mem E a w o (.v (subV n h lo' hi')) none := by
  have hd : ∀ c, o.op ≠ .defer c := by simp [ho]
  refine ok1_pure S hd (v := subV n h lo' hi') ?_ (by simp only [sat])
  rcases h3 with ⟨rfl, rfl⟩ | ⟨y, k', j, rfl, hy, h0', rfl⟩ <;> rcases h4 with ⟨rfl, rfl⟩ | ⟨y2, k, i, rfl, hy2, h0, rfl⟩
  · simp only [execOp, ho, h8, hv, Option.map_none, Instr.sliceAt, Sem.run_bind, run_underlying ht, Result.andThen_ok, Instr.slice, Instr.sliceBounds, run_sizeOf hsz, Sem.run_pure, subV]
  · have hb : (Instr.sliceBounds true h.2.1 h.2.2 none (some (.int k i)) none).run P w = .ok (0, i.toNat, h.2.2) w := by
      have := fun code => bound_run (P := P) (w := w) (k := k) (code := code) h0 (y := h.2.2) (by omega)
      simp [Instr.sliceBounds, this]
    simp only [execOp, ho, h8, hv, hy2, Option.map_none, Option.map_some, Instr.sliceAt, Sem.run_bind, run_underlying ht, Result.andThen_ok, Instr.slice, hb, run_sizeOf hsz, Sem.run_pure, subV]
  · have hb : (Instr.sliceBounds true h.2.1 h.2.2 (some (.int k' j)) none none).run P w = .ok (j.toNat, h.2.1, h.2.2) w := by
      have := fun code => bound_run (P := P) (w := w) (k := k') (code := code) h0' (y := h.2.1) (by omega)
      simp [Instr.sliceBounds, this]
    simp only [execOp, ho, h8, hv, hy, Option.map_none, Option.map_some, Instr.sliceAt, Sem.run_bind, run_underlying ht, Result.andThen_ok, Instr.slice, hb, run_sizeOf hsz, Sem.run_pure, subV]
  · have hb : (Instr.sliceBounds true h.2.1 h.2.2 (some (.int k' j)) (some (.int k i)) none).run P w = .ok (j.toNat, i.toNat, h.2.2) w := by
      have h8 := fun code => bound_run (P := P) (w := w) (k := k) (code := code) h0 (y := h.2.2) (by omega)
      have h9 := fun code => bound_run (P := P) (w := w) (k := k') (code := code) h0' (y := i.toNat) (by omega)
      simp [Instr.sliceBounds, h8, h9]
    simp only [execOp, ho, h8, hv, hy, hy2, Option.map_none, Option.map_some, Instr.sliceAt, Sem.run_bind, run_underlying ht, Result.andThen_ok, Instr.slice, hb, run_sizeOf hsz, Sem.run_pure, subV]
theorem rowSat_take {F : Nat → Prop} {n : Nat} {α : Type} {f : α → List AV} {l : List α} {xs : List Value} (h : rowSat F w n f l xs) (b : Nat) : rowSat F w n f (l.take b) (xs.take (b * n)) := by
  intro i x hi
  rw [List.getElem?_take] at hi
  split at hi
  · rename_i hlt
    obtain ⟨g1, g2⟩ := h i x hi
    refine ⟨g1, ?_⟩
    have hmul : i * n + n ≤ b * n := by
      have := Nat.mul_le_mul_right n (show i + 1 ≤ b by omega)
      rwa [Nat.succ_mul] at this
    rw [List.drop_take, List.take_take, Nat.min_eq_left (by omega)]
    exact g2
  · cases hi
theorem rowSat_drop {F : Nat → Prop} {n : Nat} {α : Type} {f : α → List AV} {l : List α} {xs : List Value} (h : rowSat F w n f l xs) (b : Nat) : rowSat F w n f (l.drop b) (xs.drop (b * n)) := by
  intro i x hi
  rw [List.getElem?_drop] at hi
  obtain ⟨g1, g2⟩ := h (b + i) x hi
  refine ⟨g1, ?_⟩
  rw [List.drop_drop, ← Nat.add_mul]
  exact g2
theorem ok1_cut (S : Sat G tm mem E a w) {t T n bytes : Nat} {x y : Operand} (hT : AppT P t T n bytes) (ho : o.op = .call { callee := .builtin .append, args := #[x, y], argTypes := #[t, t] })
    {k s : Nat} {α : Type} {d : α} {f : α → List AV} {l : List α} (hm : mem k = some (.row s T n d f l)) {h : Hd} (hh : E.h k s = some h) (i : Nat) (hi : i < l.length)
    (hx : a.eval x = subV n h 0 i) (hy : a.eval y = subV n h (i + 1) l.length) (hb : l.length * bytes ≤ 140737488355328) (hmx : l.length ≤ 140737488355328) :
    Ok1 P r nf G tm mem E a w o (.row k (s + 1)) (some (k, .row (s + 1) T n d f (l.take i ++ l.drop (i + 1)))) := by
  have hd : ∀ c, o.op ≠ .defer c := by simp [ho]
  obtain ⟨i0, z, h1, h2, h3, h4, h5, h6⟩ := hT.x
  obtain ⟨v, vs, h9, h10, h11, h12⟩ := S.memv k _ hm
  rw [hh] at h9; cases h9
  have hcells := fun g (hg : (hv h).ownBlock = some g) => h10.cells (g := g) hg
  obtain ⟨hxl, hown⟩ := h10
  rcases hown with ⟨_, h0⟩ | ⟨g, cap, cur, hv1, r1, r2, r3, r4, r5, r6⟩
  · omega
  obtain ⟨ho1, ho2, ho3⟩ := h
  simp only [hv, Value.slice.injEq] at hv1
  obtain ⟨rfl, rfl, rfl⟩ := hv1
  have hcells := hcells g rfl
  have hmul : i * n ≤ l.length * n := Nat.mul_le_mul_right n (by omega)
  have hxv : a.eval x = hv (some ⟨g, 0, none⟩, i, ho3) := by
    rw [hx]
    unfold subV hv
    have : (if ho3 = 0 then (some ⟨g, 0, none⟩ : Option Addr) else (some ⟨g, 0, none⟩ : Option Addr).map (·.add (0 * n))) = some ⟨g, 0, none⟩ := by
      split
      · rfl
      · simp [Addr.add]
    simp only [this, Nat.sub_zero]
  have hown1 : w.ownsRow G.w0.heap.size T n (hv (some ⟨g, 0, none⟩, i, ho3)) i (vs.take (i * n)) := by
    refine ⟨by rw [List.length_take, hxl]; omega, .inr ⟨g, ho3, cur, rfl, r1, r2, by omega, r4, r5, ?_⟩⟩
    rw [← r6, List.take_take, Nat.min_eq_left hmul]
  have hone : ∀ u ∈ vs, u.oneCell' = true := fun u hu => by
    obtain ⟨j, hj⟩ := List.mem_iff_getElem?.1 hu
    have hjl : j < l.length * n := by rw [← hxl]; exact (List.getElem?_eq_some_iff.1 hj).1
    have hi : j / n < l.length := (Nat.div_lt_iff_lt_mul h11).2 hjl
    obtain ⟨h9, h10⟩ := h12 (j / n) _ (List.getElem?_eq_getElem hi)
    refine satL_one (E := ⟨fun _ => none, fun _ _ => none, E.F⟩) (satL_of_fsatL _ _ h10) u ?_
    refine List.mem_iff_getElem?.2 ⟨j % n, ?_⟩
    rw [List.getElem?_take, if_pos (Nat.mod_lt _ h11), List.getElem?_drop, Nat.mul_comm, Nat.div_add_mod]
    exact hj
  have hnl : (vs.drop ((i + 1) * n)).length = (l.length - (i + 1)) * n := by rw [List.length_drop, hxl, Nat.sub_mul]
  obtain ⟨ad, had, hax⟩ : ∃ ad, (if ho3 = i + 1 then (some ⟨g, 0, none⟩ : Option Addr) else (some ⟨g, 0, none⟩ : Option Addr).map (·.add ((i + 1) * n))) = some ad ∧ ∀ j u, (vs.drop ((i + 1) * n))[j]? = some u → w.cell? (ad.add j) = some u := by
    by_cases q : ho3 = i + 1
    · refine ⟨⟨g, 0, none⟩, if_pos q, fun j u hu => ?_⟩
      have : (vs.drop ((i + 1) * n)).length = 0 := by rw [hnl, show l.length - (i + 1) = 0 by omega, Nat.zero_mul]
      rw [List.length_eq_zero_iff.1 this] at hu
      simp at hu
    · refine ⟨(⟨g, 0, none⟩ : Addr).add ((i + 1) * n), by rw [if_neg q]; rfl, fun j u hu => ?_⟩
      rw [List.getElem?_drop] at hu
      have := hcells _ u hu
      unfold Addr.add at this ⊢
      simp only [] at this ⊢
      by_cases z1 : (i + 1) * n = 0
      · rw [if_pos z1]
        simp only [z1, Nat.zero_add] at this
        simpa using this
      · rw [if_neg z1]
        rw [if_neg (by omega)] at this
        by_cases z2 : j = 0
        · subst z2
          simpa using this
        · rw [if_neg z2]
          simpa [Nat.add_assoc] using this
  obtain ⟨h', w', h18, h19, h20, h21⟩ := run_app (P := P) (ty := o.type) (cx := ho3 - (i + 1)) (m := l.length - (i + 1)) h1 h2 h3 h4 h5 h6 h11 hown1 (.inr ⟨ad, rfl, hax⟩) hnl (fun u hu => hone u (List.mem_of_mem_drop hu)) (by rw [show i + (l.length - (i + 1)) = l.length - 1 by omega]; exact Nat.le_trans (Nat.mul_le_mul_right _ (by omega)) hb) (by omega) S.ext.size
  have hyv : a.eval y = .slice (some ad) (l.length - (i + 1)) (ho3 - (i + 1)) := by
    rw [hy]
    unfold subV
    rw [← had]
  have hrun : (execOp a.eval o).run P w = .ok (.value (hv h')) w' := by
    simp only [execOp, ho, resolve, invoke, builtin, Sem.run_bind, Sem.run_pure, Result.andThen_ok, List.map_toArray, List.map_cons, List.map_nil, hxv, hyv, h18]
  have hst := S.stampR k s T n α d f l hm
  refine ok1_row S hd hrun (by rw [List.length_append, List.length_take, List.length_drop, Nat.min_eq_left (by omega)]; exact h19) h11 h20 (rowSat_append (by rw [List.length_take, List.length_take, hxl]; rw [Nat.min_eq_left hmul, Nat.min_eq_left (by omega)]) (rowSat_take h12 i) (rowSat_drop h12 (i + 1))) h21 (fun b hb => ⟨_, hm, by simp only [blkLoc, hh, Option.bind_some]; exact hb, rfl⟩) (hst.2 _ (by omega)) (fun s' hs => hst.2 s' (by omega)) hst.1
end
theorem le_frzP {s : S} (t : Nat) (x : AV) (ks bs : List Nat) (nx : Nat) (h : normOK ks bs nx s = true)
    (hx : ∀ G E a w, SatS G s E a w → ∃ b0 : Nat → Prop, (∀ b, b0 b → b < w.heap.size ∧ G.w0.heap.size ≤ b ∧ ∃ k blk, has bs k = false ∧ lm s.mem k = some blk ∧ blkLoc E k blk = some b ∧ blk.isOth = false) ∧ fsat (fun b => E.F b ∨ b0 b) w x (a.tmps.getD t undef)) :
    le s ⟨(t, x) :: keepL s.tm ks, keepM bs s.mem, nx⟩ := by
  intro G E a w hS
  obtain ⟨b0, hb0, hsx⟩ := hx G E a w hS
  obtain ⟨E1, hS1⟩ := le_norm ks bs nx h G E a w hS
  simp only [normOK, Bool.and_eq_true] at h
  obtain ⟨⟨h1, h2⟩, h3⟩ := h
  have hb : ∀ k, has bs k = true → (E.res bs).b k = E.b k := fun k hk => by simp [Env.res, hk]
  have hh : ∀ k, has bs k = true → ∀ s, (E.res bs).h k s = E.h k s := fun k hk s => by simp [Env.res, hk]
  have hlm : ∀ k blk, lm (keepM bs s.mem) k = some blk → has bs k = true ∧ lm s.mem k = some blk := fun k blk hk => by
    rw [lm_keepM] at hk
    split at hk
    · rename_i h; exact ⟨h, hk⟩
    · cases hk
  have hpl : ∀ b, b0 b → plainB w b := fun b hb => by
    obtain ⟨q0, _, k0, blk0, _, q1, q2, q3⟩ := hb0 b hb
    have hc := blkLoc_cells blk0 q3 (hS.st.memv k0 blk0 q1) b q2
    exact ⟨fun x hx => (by have := hc _ hx; cases this), fun r hr => (by have := hc _ hr; cases this)⟩
  let F' : Nat → Prop := fun b => E.F b ∨ b0 b
  let E' : Env := ⟨(E.res bs).b, (E.res bs).h, F'⟩
  have hle : (E.res bs).le E' := ⟨fun _ _ h => h, fun _ _ _ h => h, fun _ h => .inl h⟩
  have hkeq : ∀ l : List Nat, (l.map fun t => (t, lk s.tm t)) = keepL s.tm l := fun l => by
    induction l with
    | nil => rfl
    | cons a l ih => simp only [List.map_cons, keepL, ih]
  refine ⟨E', ⟨?_, fun k hk => ?_⟩⟩
  · exact {
      ext := hS.st.ext
      fz := fun b hb => by
        rcases hb with hb | hb
        · exact hS.st.fz b hb
        · obtain ⟨q1, q2, _⟩ := hb0 b hb
          exact ⟨q1, .inr q2⟩
      tmv := fun t' => by
        simp only [lk]
        split
        · rename_i he; subst he
          exact sat_of_fsat (E := E') _ _ hsx
        · have hres : sat (E.res bs) w (lk (keepL s.tm ks) t') (a.tmps.getD t' undef) := by
            rw [← hkeq]
            refine sat_res _ _ (okTm_spec h1) ?_
            rcases lk_keep ks (lk s.tm) t' with h | h
            · rw [h]; exact hS.st.tmv t'
            · rw [h]; simp only [sat]
          exact sat_mono hle (fun _ _ => rfl) _ _ hres
      sz := hS.st.sz
      memv := fun k blk hk => by
        obtain ⟨hk1, hk2⟩ := hlm k blk hk
        have hbs := hS.st.memv k blk hk2
        have ho := okMem_spec h2 hk1 hk2
        cases blk with
        | cells l =>
          obtain ⟨b, cs, T, q1, q2, q3, q4⟩ := hbs
          exact ⟨b, cs, T, (hb k hk1).trans q1, q2, q3, satL_mono hle (fun _ _ => rfl) _ _ (satL_res _ _ (by simpa only [okBlk] using ho) q4)⟩
        | row s' e n d f l =>
          obtain ⟨v, xs, q1, q2, q3, q4⟩ := hbs
          refine ⟨v, xs, (hh k hk1 s').trans q1, q2, q3, fun i x hx => ?_⟩
          obtain ⟨q5, q6⟩ := q4 i x hx
          exact ⟨q5, fsatL_mono (fun b hb => .inl hb) (fun _ _ => rfl) _ _ q6⟩
        | oth x =>
          cases x with
          | fr vs tm => exact fun t => sat_mono hle (fun _ _ => rfl) _ _ (sat_res _ _ (okTm_spec ho) (hbs t))
          | lp l rec tm => exact ⟨hbs.1, hbs.2.1, fun t => sat_mono hle (fun _ _ => rfl) _ _ (sat_res _ _ (okTm_spec ho) (hbs.2.2 t))⟩
          | mp b kd g => exact hbs
          | si b s pos => exact hbs
          | nm k' b => exact (hb k' ho).trans hbs
      inj := fun k k' blk blk' b hk hk' hbl hbl' => by
        obtain ⟨hk1, hk2⟩ := hlm k blk hk
        obtain ⟨hk1', hk2'⟩ := hlm k' blk' hk'
        rw [blkLoc_same (E := E) (E' := E') (hb k hk1) (hh k hk1)] at hbl
        rw [blkLoc_same (E := E) (E' := E') (hb k' hk1') (hh k' hk1')] at hbl'
        exact hS.st.inj k k' blk blk' b hk2 hk2' hbl hbl'
      nF := fun k' blk b hk' hbl hF => by
        obtain ⟨hk1, hk2⟩ := hlm k' blk hk'
        rw [blkLoc_same (E := E) (E' := E') (hb k' hk1) (hh k' hk1)] at hbl
        rcases hF with hF | hF
        · exact hS.st.nF k' blk b hk2 hbl hF
        · obtain ⟨_, _, k0, blk0, q0, q1, q2, _⟩ := hb0 b hF
          have := hS.st.inj k' k0 blk blk0 b hk2 q1 hbl q2
          subst this
          rw [q0] at hk1; cases hk1
      fresh := fun k hk => by
        by_cases hx : has bs k = true
        · rw [lm_keepM, if_pos hx] at hk
          obtain ⟨q1, q2⟩ := hS.st.fresh k hk
          exact ⟨(hb k hx).trans q1, fun s => (hh k hx s).trans (q2 s)⟩
        · exact ⟨by simp [E', Env.res, hx], fun s => by simp [E', Env.res, hx]⟩
      stampC := fun k l s' hk => by
        obtain ⟨hk1, hk2⟩ := hlm k _ hk
        exact (hh k hk1 s').trans (hS.st.stampC k l s' hk2)
      stampR := fun k s' e n α d f l hk => by
        obtain ⟨hk1, hk2⟩ := hlm k _ hk
        have := hS.st.stampR k s' e n α d f l hk2
        exact ⟨(hb k hk1).trans this.1, fun s'' hs => (hh k hk1 s'').trans (this.2 s'' hs)⟩
      stampO := fun k x hk => by
        obtain ⟨hk1, hk2⟩ := hlm k _ hk
        have := hS.st.stampO k x hk2
        exact ⟨(hb k hk1).trans this.1, fun s'' => (hh k hk1 s'').trans (this.2 s'')⟩
      df := fun d hd => by
        obtain ⟨D, rfl, q1, q2, q3⟩ := hS.st.df d hd
        refine ⟨D, rfl, q1, fun hF => ?_, q3⟩
        rcases hF with hF | hF
        · exact q2 hF
        · exact (hpl D hF).1 _ q3
      dn := hS.st.dn
      kd := hS.st.kd
      kF := fun b hF => by
        rcases hF with hF | hF
        · exact hS.st.kF b hF
        · exact .inr (hS.st.kd.plain (hpl b hF))
      rd := hS.st.rd }
  · show lm (keepM bs s.mem) k = none
    rw [lm_keepM]
    split
    · rename_i hx
      have hk' : nx ≤ k := hk
      have := allLt_spec h3 hx; omega
    · rfl
theorem le_frzA2 {s : S} (t : Nat) (z : AV) (ks bs : List Nat) (nx k1 s1 T1 n1 k2 s2 T2 n2 : Nat) {α β : Type} (d1 : α) (f1 : α → List AV) (l1 : List α) (d2 : β) (f2 : β → List AV) (l2 : List β) (ht : lk s.tm t = .agg [.row k1 s1, .row k2 s2, z]) (hz : frzAll [z] = true)
    (hm1 : lm s.mem k1 = some (.row s1 T1 n1 d1 f1 l1)) (hm2 : lm s.mem k2 = some (.row s2 T2 n2 d2 f2 l2)) (hk1 : has bs k1 = false) (hk2 : has bs k2 = false) (h : normOK ks bs nx s = true) :
    le s ⟨(t, .agg [.sl n1 d1 f1 l1, .sl n2 d2 f2 l2, z]) :: keepL s.tm ks, keepM bs s.mem, nx⟩ :=
  le_frzP t (.agg [.sl n1 d1 f1 l1, .sl n2 d2 f2 l2, z]) ks bs nx h fun G E a w hS => by
    have h0 := hS.st.tmv t
    rw [ht] at h0
    simp only [sat] at h0
    obtain ⟨vs, h1, h2⟩ := h0
    obtain ⟨b1, p1, p2⟩ := row_frz hS hm1
    obtain ⟨b2, q1, q2⟩ := row_frz hS hm2
    refine ⟨fun b => b1 = some b ∨ b2 = some b, fun b hb => ?_, ?_⟩
    · rcases hb with hb | hb
      · obtain ⟨r1, r2, blk, r3, r4, r5⟩ := p1 b hb
        exact ⟨r1, r2, k1, blk, hk1, r3, r4, r5⟩
      · obtain ⟨r1, r2, blk, r3, r4, r5⟩ := q1 b hb
        exact ⟨r1, r2, k2, blk, hk2, r3, r4, r5⟩
    · simp only [fsat]
      refine ⟨vs, h1, ?_⟩
      simp only [satL] at h2
      obtain ⟨y1, ys1, rfl, o1, g1, y2, ys2, rfl, o2, g2, y3, ys3, rfl, o3, g3, rfl⟩ := h2
      have hz1 : fsatL E.F w [z] [y3] := fsatL_of_satL _ _ hz (by simp only [satL]; exact ⟨y3, [], rfl, o3, g3, rfl⟩)
      simp only [fsatL] at hz1 ⊢
      obtain ⟨y, ys, e0, e1, e2, e3⟩ := hz1
      cases e0
      exact ⟨y1, _, rfl, o1, fsat_mono (fun b hb => hb.imp id .inl) (fun _ _ => rfl) _ _ (p2 y1 g1), y2, _, rfl, o2, fsat_mono (fun b hb => hb.imp id .inr) (fun _ _ => rfl) _ _ (q2 y2 g2), y3, _, rfl, o3, fsat_mono (fun b hb => .inl hb) (fun _ _ => rfl) _ _ e2, rfl⟩
section
variable {P : Program} {N : Nat} {s s' : S}
theorem V_sub {kr st0 T' n t : Nat} {α : Type} {d : α} {F : α → List AV} {l : List α} {dst : Option Nat} {x : Operand} {lo hi : Option Operand} {h : Hd} (hm : lm s.mem kr = some (.row st0 T' n d F l)) (hx : ev s.tm x = .row kr st0) (lo' hi' : Nat) (h1 : lo' ≤ hi') (h2 : hi' ≤ l.length)
    (h3 : (lo = none ∧ lo' = 0) ∨ ∃ y, lo = some y ∧ ev s.tm y = .v (.int .i64 lo')) (h4 : (hi = none ∧ hi' = l.length) ∨ ∃ y, hi = some y ∧ ev s.tm y = .v (.int .i64 hi')) (hle : leS (s.app dst [] (.v (subV n h lo' hi')) none) s') :
    VStep P N kr st0 h ⟨dst, .slc t n x lo hi, none⟩ s s' := by
  refine ⟨rfl, _, none, trivial, hle, fun r nf G E a w oi fz ops hT hS hH => ?_⟩
  obtain ⟨f, hop⟩ := hT.op
  obtain ⟨el, ho, ht, hsz⟩ := slc_inv hop
  have hslots : ∀ x, sat E w (ev s.tm x) (a.eval x) := fun x => ev_sat hS.st x (fun t _ => rfl)
  have h8 := hslots x
  rw [hx] at h8
  simp only [sat] at h8
  obtain ⟨hh, g1, g2⟩ := h8
  rw [hH] at g1; cases g1
  obtain ⟨v, vs, q1, q2, q3, q4⟩ := hS.st.memv kr _ hm
  rw [hH] at q1; cases q1
  have hlc : l.length = h.2.1 ∧ l.length ≤ h.2.2 := by
    rcases q2.2 with ⟨hv1, h0⟩ | ⟨g, cap, cur, hv1, _, _, hc, _⟩
    · simp only [hv, Value.slice.injEq] at hv1
      omega
    · simp only [hv, Value.slice.injEq] at hv1
      exact ⟨hv1.2.1.symm, by omega⟩
  refine ok1_sub hS.st ht hsz ho g2 lo' hi' h1 (by omega) (by omega) ?_ ?_
  · rcases h3 with h3 | ⟨y, rfl, hy⟩
    · exact .inl h3
    · have := hslots y
      rw [hy] at this
      simp only [sat] at this
      exact .inr ⟨y, .i64, lo', rfl, this, by omega, by omega⟩
  · rcases h4 with ⟨rfl, h4⟩ | ⟨y, rfl, hy⟩
    · exact .inl ⟨rfl, by omega⟩
    · have := hslots y
      rw [hy] at this
      simp only [sat] at this
      exact .inr ⟨y, .i64, hi', rfl, this, by omega, by omega⟩
theorem V_cut {kr st0 T n bytes : Nat} {α : Type} {d : α} {F : α → List AV} {l : List α} {dst : Option Nat} {x y : Operand} {h : Hd} (hm : lm s.mem kr = some (.row st0 T n d F l)) (i : Nat) (hi : i < l.length) (hx : ev s.tm x = .v (subV n h 0 i)) (hy : ev s.tm y = .v (subV n h (i + 1) l.length))
    (hb : l.length * bytes ≤ 140737488355328) (hmx : l.length ≤ 140737488355328) (hk : there s kr) (hle : leS (s.app dst [] (.row kr (st0 + 1)) (some (kr, .row (st0 + 1) T n d F (l.take i ++ l.drop (i + 1))))) s') :
    VStep P N kr st0 h ⟨dst, .app T n bytes x y, none⟩ s s' := by
  refine ⟨rfl, .row kr (st0 + 1), some (kr, .row (st0 + 1) T n d F (l.take i ++ l.drop (i + 1))), ⟨rfl, .inr hk⟩, hle, fun r nf G E a w oi fz ops hT hS hH => ?_⟩
  obtain ⟨f, hop⟩ := hT.op
  obtain ⟨t, ho, hA⟩ := app_inv hop
  have hslots : ∀ x, sat E w (ev s.tm x) (a.eval x) := fun x => ev_sat hS.st x (fun t _ => rfl)
  have h8 := hslots x
  have h9 := hslots y
  rw [hx] at h8
  rw [hy] at h9
  simp only [sat] at h8 h9
  exact ok1_cut hS.st hA ho hm hH i hi h8 h9 hb hmx
end
theorem leS_keepL {s : S} (ks : List Nat) (nx : Nat) (h : ∀ j, nx ≤ j → lm s.mem j = none) : leS s ⟨keepL s.tm ks, s.mem, nx⟩ := fun G E a w hS => by
  have hkeq : ∀ l : List Nat, ∀ t, lk (keepL s.tm l) t = lk s.tm t ∨ lk (keepL s.tm l) t = .bad := fun l => by
    induction l with
    | nil => intro t; exact .inr rfl
    | cons a l ih =>
      intro t
      simp only [keepL, lk]
      split
      · rename_i h; rw [h]; exact .inl rfl
      · exact ih t
  exact ⟨hS.st.forget (hkeq ks), h⟩
end Sy

