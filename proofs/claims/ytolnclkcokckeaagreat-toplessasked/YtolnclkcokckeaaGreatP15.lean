/- TopLessAsked: for every input the law returns true; each argument reads behind the call as it read before. -/
import Derived.Test.YtolnclkcokckeaaGreatP14
import Derived.Test.YtolnclkcokckeaaGreatRows
import Derived.ShutString
namespace Go.Proofs.YtolnclkcokckeaaGreat.P
open Go Sy
set_option linter.unusedVariables false
theorem forB_le {r : Rul} {x : ByteArray} {f g : Nat → Int} (h : ∀ k, k < 6 → g k ≤ f k) (hw : ∀ w ∈ r.wh, 0 ≤ w.s ∧ w.s ≤ 5) (hb : forB r x g = true) : forB r x f = true := by
  unfold forB at hb ⊢
  rw [Bool.and_eq_true] at hb ⊢
  refine ⟨hb.1, ?_⟩
  rw [Bool.not_eq_true', List.any_eq_false] at hb ⊢
  intro w hm hc
  refine hb.2 w hm ?_
  unfold ltB at hc ⊢
  rw [decide_eq_true_eq] at hc ⊢
  have := h w.s.toNat (by have := hw w hm; omega)
  omega
structure LeI (s s' : In) : Prop where
  cd : ∀ c ∈ s.cd, c ∈ s'.cd
  fe : s.fe ≤ s'.fe
  ls : ∀ r ∈ s.ls, r ∈ s'.ls
theorem inN_le {P P' : Rul → Bool} {ru : List Rul} {i k : Int} {s s' : In} (hP : ∀ r ∈ ru, P r = true → P' r = true) (hc : ∀ r ∈ ru, 0 ≤ r.co) (h : LeI s s') : ∀ n, n ≤ ru.length → LeI (inN P ru i k s n) (inN P' ru i k s' n)
  | 0, _ => h
  | n + 1, hn => by
    have ih := inN_le (i := i) (k := k) hP hc h n (by omega)
    rw [inN_succ, inN_succ]
    generalize inN P ru i k s n = q at *
    generalize inN P' ru i k s' n = q' at *
    have hm := getD_mem' dRu ru n (by omega)
    obtain ⟨h1, h2, h3⟩ := ih
    have hco := hc _ hm
    unfold inS
    by_cases p : P (ru.getD n dRu) = true
    · rw [if_pos p, if_pos (hP _ hm p)]
      refine ⟨fun c hcm => ?_, by show q.fe + _ ≤ q'.fe + _; omega, fun r hr => ?_⟩
      · have hcm : c ∈ q.cd ++ [⟨i, k, n⟩] := hcm
        show c ∈ q'.cd ++ [⟨i, k, n⟩]
        rw [List.mem_append] at hcm ⊢
        exact hcm.imp (h1 c) id
      · have hr : r ∈ q.ls ++ [ru.getD n dRu] := hr
        show r ∈ q'.ls ++ [ru.getD n dRu]
        rw [List.mem_append] at hr ⊢
        exact hr.imp (h3 r) id
    · rw [if_neg p]
      split
      · refine ⟨fun c hcm => ?_, by show q.fe ≤ q'.fe + _; omega, fun r hr => ?_⟩
        · show c ∈ q'.cd ++ [⟨i, k, n⟩]
          rw [List.mem_append]; exact .inl (h1 c hcm)
        · show r ∈ q'.ls ++ [ru.getD n dRu]
          rw [List.mem_append]; exact .inl (h3 r hr)
      · exact ⟨h1, h2, h3⟩
structure LeD (s s' : Dk) : Prop where
  cd : ∀ c ∈ s.cd, c ∈ s'.cd
  fe : s.fe ≤ s'.fe
  no : s.no = s'.no
  us : s.us = s'.us
  ps : ∀ j, (s.ps.getD j dRs).mi = (s'.ps.getD j dRs).mi ∧ ∀ r ∈ (s.ps.getD j dRs).ls, r ∈ (s'.ps.getD j dRs).ls
theorem dkN_le {l : List Aut} {ps : List Psg} {f g : Nat → Int} (hA : ∀ a ∈ l, OkA a) (h : ∀ k, k < 6 → g k ≤ f k) : ∀ n, n ≤ ps.length → (∀ j, j < n → 0 ≤ kA l (ps.getD j dPs)) → LeD (dkN l ⟨g, ps⟩ n) (dkN l ⟨f, ps⟩ n)
  | 0, _, _ => ⟨fun c hc => hc, Int.le_refl _, rfl, rfl, fun j => ⟨rfl, fun r hr => hr⟩⟩
  | n + 1, hn, hk => by
    have ih := dkN_le hA h n (by omega) (fun j hj => hk j (by omega))
    have hl1 := dk_len l ⟨g, ps⟩ n
    have hl2 := dk_len l ⟨f, ps⟩ n
    rw [dkN_succ, dkN_succ]
    generalize dkN l ⟨g, ps⟩ n = s at *
    generalize dkN l ⟨f, ps⟩ n = s' at *
    have h0 := hk n (by omega)
    have hr := idxF_rng (fun a => a.nm == (ps.getD n dPs).au) l
    have hkl : (kA l (ps.getD n dPs)).toNat < l.length := by unfold kA at h0 ⊢; omega
    have ha := hA _ (getD_mem' dAu l _ hkl)
    obtain ⟨i1, i2, i3, i4, i5⟩ := ih
    have d1 : (dk1 l s (kA l (ps.getD n dPs))).1 ≤ (dk1 l s' (kA l (ps.getD n dPs))).1 ∧ (dk1 l s (kA l (ps.getD n dPs))).2 = (dk1 l s' (kA l (ps.getD n dPs))).2 := by
      unfold dk1
      rw [i4, i3]
      split
      · exact ⟨i2, rfl⟩
      · exact ⟨by show s.fe + _ ≤ s'.fe + _; omega, rfl⟩
    have q := inN_le (P := fun r => forB r (ps.getD n dPs).rd g) (P' := fun r => forB r (ps.getD n dPs).rd f) (ru := (l.getD (kA l (ps.getD n dPs)).toNat dAu).ru) (i := (n : Int)) (k := kA l (ps.getD n dPs)) (s := ⟨[], [], s.cd, (dk1 l s (kA l (ps.getD n dPs))).1⟩) (s' := ⟨[], [], s'.cd, (dk1 l s' (kA l (ps.getD n dPs))).1⟩) (fun r hm hb => forB_le h (fun w hw => (rulB_ok (ha.ru r hm)).ws w hw) hb) (fun r hm => (rulB_ok (ha.ru r hm)).co.1) ⟨i1, d1.1, fun r hr => hr⟩ _ (Nat.le_refl _)
    have q : LeI (inA l g s n (ps.getD n dPs)) (inA l f s' n (ps.getD n dPs)) := q
    refine ⟨q.cd, q.fe, d1.2, by show (if _ then s.us else _) = (if _ then s'.us else _); rw [i4], fun j => ?_⟩
    have key : ∀ (X Y : Rls), X.mi = Y.mi → (∀ r ∈ X.ls, r ∈ Y.ls) → ((s.ps ++ [X]).getD j dRs).mi = ((s'.ps ++ [Y]).getD j dRs).mi ∧ ∀ r ∈ ((s.ps ++ [X]).getD j dRs).ls, r ∈ ((s'.ps ++ [Y]).getD j dRs).ls := by
      intro X Y hm hs
      simp only [List.getD]
      rcases Nat.lt_trichotomy j n with hj | hj | hj
      · rw [List.getElem?_append_left (by omega), List.getElem?_append_left (by omega)]
        exact i5 j
      · rw [List.getElem?_append_right (by omega), List.getElem?_append_right (by omega)]
        simp only [hl1, hl2, hj, Nat.sub_self, List.getElem?_cons_zero, Option.getD_some]
        exact ⟨hm, hs⟩
      · rw [List.getElem?_eq_none (by rw [List.length_append, List.length_singleton]; omega), List.getElem?_eq_none (by rw [List.length_append, List.length_singleton]; omega)]
        exact ⟨rfl, fun r hr => hr⟩
    exact key _ _ rfl q.ls
theorem dskE_eq {l : List Aut} {ps : List Psg} {f g : Nat → Int} (hf : ∀ k, k < 6 → 0 ≤ f k ∧ f k ≤ 1073741824) (hg : ∀ k, k < 6 → 0 ≤ g k ∧ g k ≤ 1073741824) : dskE l ⟨g, ps⟩ = dskE l ⟨f, ps⟩ := by
  have h1 : szB f = true := szB_yes fun k hk => inR_iff.2 (hf k hk)
  have h2 : szB g = true := szB_yes fun k hk => inR_iff.2 (hg k hk)
  have : trpE ⟨g, ps⟩ = trpE ⟨f, ps⟩ := by
    unfold trpE
    show (if _ then _ else if szB g = true ∧ _ then _ else _) = (if _ then _ else if szB f = true ∧ _ then _ else _)
    rw [h1, h2]
  unfold dskE
  rw [this]
theorem allB_le {l l' : List Rul} (h : ∀ r ∈ l, r ∈ l') {x : Int} (ha : allB l' x = true) : allB l x = true := by
  unfold allB at ha ⊢
  rw [Bool.not_eq_true', List.any_eq_false] at ha ⊢
  exact fun r hr => ha r (h r hr)
theorem nxP_le {l l' : List Rul} (h : ∀ r ∈ l, r ∈ l') {mi a b s : Int} (hs : nxP l' mi a b s) : nxP l mi a b s :=
  ⟨hs.1, hs.2.1, fun x h1 h2 => allB_le h (hs.2.2 x h1 h2)⟩
theorem lst_has {P : Int → Prop} {a : Int} (hb : ∀ s, P s → a ≤ s) : ∀ (n : Nat) (s : Int), P s → s ≤ a + n → ∃ s', lst P = some s' ∧ s' ≤ s
  | 0, s, hs, hl => ⟨s, lst_at hs (fun s' q => by have := hb s' q; omega), Int.le_refl _⟩
  | n + 1, s, hs, hl => by
    by_cases h : ∃ s', P s' ∧ s' < s
    · obtain ⟨s', h1, h2⟩ := h
      obtain ⟨y, h3, h4⟩ := lst_has hb n s' h1 (by omega)
      exact ⟨y, h3, by omega⟩
    · refine ⟨s, lst_at hs (fun s' q => ?_), Int.le_refl _⟩
      apply Classical.byContradiction
      intro hc
      exact h ⟨s', q, by omega⟩
theorem nx_le {l : List Aut} {ps : List Psg} {f g : Nat → Int} (hE : dskE l ⟨f, ps⟩ = 0) (hf : ∀ k, k < 6 → 0 ≤ f k ∧ f k ≤ 1073741824) (hg : ∀ k, k < 6 → 0 ≤ g k ∧ g k ≤ 1073741824) (h : ∀ k, k < 6 → g k ≤ f k) {p a : Int} (h0 : nxE l ⟨f, ps⟩ p a = 0) : nxE l ⟨g, ps⟩ p a = 0 ∧ nxV l ⟨g, ps⟩ p a ≤ nxV l ⟨f, ps⟩ p a := by
  have hE2 : dskE l ⟨g, ps⟩ = 0 := by rw [dskE_eq hf hg, hE]
  obtain ⟨o1, _, o3, _⟩ := dsk_ok hE
  have hD := dkN_le (ps := ps) (f := f) (g := g) (allE_ok o1).2.1 h ps.length (Nat.le_refl _) o3
  have hfd : fdE l ⟨g, ps⟩ p = fdE l ⟨f, ps⟩ p := by
    unfold fdE
    rw [hE, hE2]
  have hv := h0
  unfold nxE at h0
  by_cases q1 : fdE l ⟨f, ps⟩ p = 0
  · rw [if_pos q1] at h0
    by_cases q2 : inR a 0 1099511627776 = true
    · rw [if_pos q2] at h0
      cases hn : nxR l ⟨f, ps⟩ p a with
      | none => rw [if_pos hn] at h0; omega
      | some s =>
        have hp := (lst_some hn).1
        have hsub := hD.ps p.toNat
        have hp2 : nxP (rlA l ⟨g, ps⟩ p).ls (rlA l ⟨g, ps⟩ p).mi a ((a / 1440 + 400) * 1440) s := by
          have := nxP_le (l := (rlA l ⟨g, ps⟩ p).ls) hsub.2 hp
          rw [show (rlA l ⟨g, ps⟩ p).mi = (rlA l ⟨f, ps⟩ p).mi from hsub.1]
          exact this
        obtain ⟨s', e1, e2⟩ := lst_has (a := a) (fun s q => q.1) (s - a).toNat s hp2 (by have := hp2.1; omega)
        have e1 : nxR l ⟨g, ps⟩ p a = some s' := e1
        have z : nxE l ⟨g, ps⟩ p a = 0 := by
          unfold nxE
          rw [hfd, if_pos q1, if_pos q2, e1, if_neg (by simp)]
        refine ⟨z, ?_⟩
        unfold nxV
        rw [z, hv, hn, e1]
        exact e2
    · rw [if_neg q2] at h0; omega
  · rw [if_neg q1] at h0; exact absurd h0 q1
set_option maxRecDepth 100000
set_option maxHeartbeats 8000000
set_option linter.unusedSimpArgs false
def eqC (a b : Cnd) : Bool := a.p == b.p && a.a == b.a && a.r == b.r
theorem eqL_C (a b : Cnd) : eqL 21 (cCd a) (cCd b) = some (eqC a b) := by
  show some _ = some _
  congr 1
  unfold eqC
  simp [Bool.and_assoc]
theorem any_take {α : Type} (p : α → Bool) (d : α) (l : List α) (j : Nat) (h : j < l.length) : (l.take (j + 1)).any p = ((l.take j).any p || p (l.getD j d)) := by
  rw [List.take_succ_eq_append_getElem h, List.any_append]
  simp [List.getD, h]
theorem fn3 (bx : List Bx) (l : List Aut) (ps : List Psg) (x : Int) (hb : bx.length ≤ 140737488355328) (h1 : ∀ b ∈ bx, OBx b) (hl : l.length ≤ 140737488355328) (hg : ∀ a ∈ l, GrA a) (hp : ps.length ≤ 140737488355328) (hx : 0 ≤ x ∧ x ≤ 4294967295) : Sy.Fn Tryz.prog 3 [aBx bx, aAu l, aPs ps, .v (.int .u32 x)] (bv true) := by
  refine Fn_of_W mixed Xt3 rfl ?_
  have c5 := fn5 l ⟨fun _ => 0, ps⟩ hl hg hp
  have c6 := fn6
  have c7 := fn7 bx hb h1
  have c8 := fn8 bx h1
  have hcl := crg_len bx
  have ecl : cLd (crg bx) = [stv crgS, aPc (crg bx).ps, aEy [], iv 300] := rfl
  by_cases hbg : bgW l ps.length = true
  · change Sy.Fn Tryz.prog 5 _ (bv (bgW l ps.length)) at c5
    rw [hbg] at c5
    (refine go_c c5 ?_; try exact True.intro)
    refine W_cond (by rfl) (fun _ => ?_) (fun h => by cases h)
    (refine go_c c6 ?_; try exact True.intro)
    exact W_ret ⟨[_], ⟨rfl, rfl⟩, rfl⟩
  rw [Bool.not_eq_true] at hbg
  change Sy.Fn Tryz.prog 5 _ (bv (bgW l ps.length)) at c5
  rw [hbg] at c5
  rw [ecl] at c7 c8
  have hL := fun (ho : okS bx = true) h2 => less_ok h1 ho h2
  have hct := crg_take bx (j := (crg bx).ps.length - 1) (by omega)
  have c8' := fn8 (bx.take ((crg bx).ps.length - 1)) (fun b hb => h1 b (List.mem_of_mem_take hb))
  have ecl' : cLd (crg (bx.take ((crg bx).ps.length - 1))) = [stv crgS, aPc ((crg bx).ps.take ((crg bx).ps.length - 1)), aEy [], iv 300] := by rw [hct]
  rw [ecl'] at c8'
  have hbx' : ∀ b ∈ bx.take ((crg bx).ps.length - 1), OBx b := fun b hb => h1 b (List.mem_of_mem_take hb)
  generalize bx.take ((crg bx).ps.length - 1) = bx' at *
  generalize (crg bx).ps = PS at *
  have m3 : nth (R.c6 (szF bx)) 3 = iv (szF bx 3) := rfl
  have m3' : nth (R.c6 (szF bx')) 3 = iv (szF bx' 3) := rfl
  (refine go_cc c5 c7 ?_; try exact True.intro)
  refine W_cond (by rfl) (fun h => by cases h) (fun _ => ?_)
  (refine go_c c7 ?_; try exact True.intro)
  refine W_condD (by rfl) (fun h6 => ?_) (fun h6 => ?_)
  · (refine go_c c6 ?_; try exact True.intro)
    exact W_ret ⟨[_], ⟨rfl, rfl⟩, rfl⟩
  have ct : ((PS.length : Int) - 1).toNat = PS.length - 1 := by omega
  (refine gofcc ct c8 c8' ?_; try exact True.intro)
  by_cases ho : okS bx = true
  rotate_left
  · rw [Bool.not_eq_true] at ho
    rw [ho]
    refine W_cond (by rfl) (fun _ => ?_) (fun h => by cases h)
    (refine go_c c6 ?_; try exact True.intro)
    exact W_ret ⟨[_], ⟨rfl, rfl⟩, rfl⟩
  obtain ⟨ho', hle⟩ := hL ho (by omega)
  obtain ⟨hz, _⟩ := szF_rng h1 ho
  obtain ⟨hz', _⟩ := szF_rng hbx' ho'
  have d6 : decide (szF bx 3 < szF bx' 3) = false := decide_eq_false (by have := hle 3 (by omega); omega)
  rw [ho, ho', d6]
  refine W_cond (by rfl) (fun h => by cases h) (fun _ => ?_)
  generalize szF bx = f at *
  generalize szF bx' = g at *
  have e6 : ∀ f : Nat → Int, R.c6 f = [iv (f 0), iv (f 1), iv (f 2), iv (f 3), iv (f 4), iv (f 5)] := fun _ => rfl
  rw [e6 f, e6 g]
  have c9 := fn9 l ⟨f, ps⟩ hl hg hp
  have c9' := fn9 l ⟨g, ps⟩ hl hg hp
  rw [dskE_eq hz hz'] at c9'
  have hEE := @dskE_eq l ps f g hz hz'
  by_cases hE : dskE l ⟨f, ps⟩ = 0
  rotate_left
  · unfold pmV at c9 c9'
    rw [if_neg hE] at c9
    rw [if_neg (by rw [hEE]; exact hE)] at c9'
    generalize dskE l ⟨f, ps⟩ = E at *
    (refine go_cc c9 c9' ?_; try exact True.intro)
    refine W_cond (by rfl) (fun h => absurd h (by simp)) (fun _ => ?_)
    (refine go0 ?_; try exact True.intro)
    refine W_cond (by rfl) (fun _ => ?_) (fun h => absurd (by simpa using h) hE)
    (refine go_c c6 ?_; try exact True.intro)
    exact W_ret ⟨[_], ⟨rfl, rfl⟩, rfl⟩
  have c10 := fun p a => fn10 l ⟨f, ps⟩ p a hl hg hp
  have c10' := fun p a => fn10 l ⟨g, ps⟩ p a hl hg hp
  have hnx := fun p a h0 => @nx_le l ps f g hE hz hz' hle p a h0
  obtain ⟨o1, _, o3, oD⟩ := dsk_ok hE
  obtain ⟨_, _, _, oD'⟩ := dsk_ok (hEE.trans hE)
  have hD := dkN_le (ps := ps) (f := f) (g := g) (allE_ok o1).2.1 hle ps.length (Nat.le_refl _) o3
  unfold pmV at c9 c9'
  rw [if_pos hE, hE] at c9
  rw [if_pos (hEE.trans hE), hE] at c9'
  dsimp only at c9 c9'
  generalize dkN l ⟨f, ps⟩ ps.length = D at *
  generalize dkN l ⟨g, ps⟩ ps.length = D' at *
  (refine go_cc c9 c9' ?_; try exact True.intro)
  obtain ⟨k1, k2, k3, _, _⟩ := hD
  have f1 := oD.fe
  have f2 := oD'.fe
  have f3 := oD.cd
  have f4 := oD'.cd
  have t24 := (trpE_ok (show trpE ⟨f, ps⟩ = 0 by assumption)).1.2
  have t24 : ps.length ≤ 24 := t24
  have f3 : D.cd.length ≤ 24 * ps.length := f3
  have f4 : D'.cd.length ≤ 24 * ps.length := f4
  have d1 : decide (D.fe < D'.fe) = false := decide_eq_false (by omega)
  have d2 : (D'.no != D.no) = false := by rw [k3]; exact bne_self_eq_false ..
  refine W_cond (by rfl) (fun h => by cases h) (fun _ => ?_)
  (refine gof (ad2 d1 d2) ?_; try exact True.intro)
  refine W_cond (by rfl) (fun h => by cases h) (fun _ => ?_)
  (refine go0 ?_; try exact True.intro)
  refine W_cond (by rfl) (fun h => by rw [d1, d2] at h; cases h) (fun _ => ?_)
  (refine go0 ?_; try exact True.intro)
  refine W_loopU (fun i : Nat => [(20, iv i)]) (fun i => []) (fun i => i ≤ D'.cd.length) (fun i => D'.cd.length - i) 0 (by omega) (by rfl) (by rfl) (fun i hi => ?_)
  (refine sy1 ?_; try exact True.intro)
  (refine go0 ?_; try exact True.intro)
  refine W_condD (by rfl) (fun h7 => ?_) (fun h7 => ?_)
  · have hlt : i < D'.cd.length := by omega
    have hm := k1 _ (getD_mem' dCd D'.cd i hlt)
    generalize hC : D'.cd.getD i dCd = c at *
    (refine go0 ?_; try exact True.intro)
    refine W_loopU (fun j : Nat => [(22, iv j), (21, bv ((D.cd.take j).any (fun y => eqC y c)))]) (fun j => []) (fun j => j ≤ D.cd.length) (fun j => D.cd.length - j) 0 (by omega) (by rfl) (by rfl) (fun j hj => ?_)
    (refine sy1 ?_; try exact True.intro)
    (refine go0 ?_; try exact True.intro)
    refine W_condD (by rfl) (fun h8 => ?_) (fun h8 => ?_)
    · have hltj : j < D.cd.length := by omega
      have ht := any_take (fun y => eqC y c) dCd D.cd j hltj
      generalize (D.cd.take j).any (fun y => eqC y c) = A at *
      have ht : bv ((D.cd.take (j + 1)).any (fun y => eqC y c)) = bv (A || eqC (D.cd.getD j dCd) c) := by rw [ht]
      generalize hY : D.cd.getD j dCd = Y at *
      repeat' (first | refine w1g ?_ | refine w1l ?_ | refine w1q ?_ | refine w1b ?_ | refine w1p ?_ | ((first | refine w1r ?_ | refine w1k ?_ | refine w1e ?_); simp (maxSteps := 400000) (disch := omega) only [push_cast, ↓reduceIte, reduceCtorEq, Nat.reduceAdd, Nat.reduceSub, Nat.reduceEqDiff, Nat.reduceLeDiff, Nat.reduceLT, Nat.reduceBEq, Nat.reduceDiv, Nat.reduceMod, Nat.reducePow, Nat.reduceMul, Int.reduceToNat, Int.reduceLT, Int.reduceLE, hC, hY, eqL_C]) | refine an2 ?_ | fail)
      refine ⟨j + 1, by omega, by omega, by rfl, ?_⟩
      show _ = S.mk [_, _, _, _, _, _, _, _, (21, bv ((D.cd.take (j + 1)).any (fun y => eqC y c))), _] _ _
      rw [ht]
      (refine syE ?_; try exact True.intro)
    · obtain rfl : j = D.cd.length := by omega
      have hA : (D.cd.take D.cd.length).any (fun y => eqC y c) = true := by
        rw [List.take_length]
        exact List.any_eq_true.2 ⟨c, hm, by unfold eqC; simp⟩
      generalize (D.cd.take D.cd.length).any (fun y => eqC y c) = A at *
      subst hA
      refine w1e ?_
      (refine sy1 ?_; try exact True.intro)
      (refine go0 ?_; try exact True.intro)
      refine W_cond (by rfl) (fun h => by cases h) (fun _ => ?_)
      (refine go0 ?_; try exact True.intro)
      refine ⟨i + 1, by omega, by omega, by rfl, ?_⟩
      (refine syE ?_; try exact True.intro)
  · refine w1e ?_
    (refine sy1 ?_; try exact True.intro)
    (refine go0 ?_; try exact True.intro)
    refine W_loopU (fun i : Nat => [(23, iv i)]) (fun i => []) (fun i => i ≤ ps.length) (fun i => ps.length - i) 0 (by omega) (by rfl) (by rfl) (fun i hi => ?_)
    (refine sy1 ?_; try exact True.intro)
    (refine go0 ?_; try exact True.intro)
    have ex : x.tmod 500000 = x % 500000 := Int.tmod_eq_emod_of_nonneg hx.1
    refine W_condD (by rfl) (fun h8 => ?_) (fun h8 => ?_)
    · have e1 := c10 i (x % 500000)
      have e2 := c10' i (x % 500000)
      have e3 := hnx i (x % 500000)
      generalize nxE l ⟨f, ps⟩ i (x % 500000) = E at *
      generalize nxV l ⟨f, ps⟩ i (x % 500000) = V at *
      generalize nxE l ⟨g, ps⟩ i (x % 500000) = E' at *
      generalize nxV l ⟨g, ps⟩ i (x % 500000) = V' at *
      (refine gofcc ex e1 e2 ?_; try exact True.intro)
      refine W_cond (by rfl) (fun h => ?_) (fun _ => ?_)
      · exfalso
        rw [Bool.and_eq_true, beq_iff_eq] at h
        obtain ⟨h9, h10⟩ := h
        obtain ⟨q1, q2⟩ := e3 h9
        rw [Bool.or_eq_true, decide_eq_true_eq, bne_iff_ne] at h10
        rcases h10 with h10 | h10
        · exact h10 q1
        · omega
      (refine go0 ?_; try exact True.intro)
      refine ⟨i + 1, by omega, by omega, by rfl, ?_⟩
      (refine syE ?_; try exact True.intro)
    · refine w1e ?_
      (refine sy1 ?_; try exact True.intro)
      (refine go_c c6 ?_; try exact True.intro)
      exact W_ret ⟨[_], ⟨rfl, rfl⟩, rfl⟩
end Go.Proofs.YtolnclkcokckeaaGreat.P
namespace Go.Proofs.YtolnclkcokckeaaGreat
open Go Sy
set_option maxRecDepth 100000
set_option linter.unusedVariables false
theorem u8_wf {n : Int} (h : (Lit.int .u8 n).wf = true) : 0 ≤ n ∧ n ≤ 255 := by
  simp [Lit.wf, IntKind.min, IntKind.max, IntKind.bits, IntKind.signed] at h
  omega
theorem u16_wf {n : Int} (h : (Lit.int .u16 n).wf = true) : 0 ≤ n ∧ n ≤ 65535 := by
  simp [Lit.wf, IntKind.min, IntKind.max, IntKind.bits, IntKind.signed] at h
  omega
theorem u32_wf {n : Int} (h : (Lit.int .u32 n).wf = true) : 0 ≤ n ∧ n ≤ 4294967295 := by
  simp [Lit.wf, IntKind.min, IntKind.max, IntKind.bits, IntKind.signed] at h
  omega
theorem y2 : Tryz.prog.cellsOf 2 = 1 := by kernel_rfl
theorem y3 : Tryz.prog.cellsOf 3 = 1 := by kernel_rfl
theorem y4 : Tryz.prog.cellsOf 4 = 1 := by kernel_rfl
theorem y5 : Tryz.prog.cellsOf 5 = 1 := by kernel_rfl
theorem y9 : Tryz.prog.cellsOf 9 = 1 := by kernel_rfl
theorem y60 : Tryz.prog.cellsOf 60 = 1 := by kernel_rfl
theorem y66 : Tryz.prog.cellsOf 66 = 3 := by kernel_rfl
theorem y74 : Tryz.prog.cellsOf 74 = 1 := by kernel_rfl
theorem y76 : Tryz.prog.cellsOf 76 = 4 := by kernel_rfl
theorem y77 : Tryz.prog.cellsOf 77 = 1 := by kernel_rfl
theorem y78 : Tryz.prog.cellsOf 78 = 1 := by kernel_rfl
theorem y79 : Tryz.prog.cellsOf 79 = 2 := by kernel_rfl
theorem y80 : Tryz.prog.cellsOf 80 = 1 := by kernel_rfl
theorem y82 : Tryz.prog.cellsOf 82 = 11 := by kernel_rfl
theorem y84 : Tryz.prog.cellsOf 84 = 7 := by kernel_rfl
theorem y219 : Tryz.prog.cellsOf 219 = 2 := by kernel_rfl
theorem y284 : Tryz.prog.cellsOf 284 = 3 := by kernel_rfl
theorem b9 : Tryz.prog.bytesOf 9 = 16 := by kernel_rfl
theorem b66 : Tryz.prog.bytesOf 66 = 40 := by kernel_rfl
theorem b76 : Tryz.prog.bytesOf 76 = 56 := by kernel_rfl
theorem b82 : Tryz.prog.bytesOf 82 = 144 := by kernel_rfl
theorem b84 : Tryz.prog.bytesOf 84 = 8 := by kernel_rfl
theorem b219 : Tryz.prog.bytesOf 219 = 16 := by kernel_rfl
theorem b284 : Tryz.prog.bytesOf 284 = 32 := by kernel_rfl
theorem k2 : Codec Tryz.prog 2 (fun n : Int => [iv n]) (fun _ => True) := (Codec.int Tryz.underlying2).map id (fun _ => rfl) (fun _ _ => trivial)
theorem k3 : Codec Tryz.prog 3 (fun n : Int => [iv n]) (fun _ => True) := (Codec.int Tryz.underlying3).map id (fun _ => rfl) (fun _ _ => trivial)
theorem k4 : Codec Tryz.prog 4 (fun b : Bool => [.v (.bool b)]) (fun _ => True) := Codec.bool Tryz.underlying4
theorem k5 : Codec Tryz.prog 5 (fun n : Int => [.v (.int .u8 n)]) (fun n => 0 ≤ n ∧ n ≤ 255) := (Codec.int Tryz.underlying5).map id (fun _ => rfl) (fun _ h => u8_wf h)
theorem k60 : Codec Tryz.prog 60 (fun n : Int => [.v (.int .u16 n)]) (fun n => 0 ≤ n ∧ n ≤ 65535) := (Codec.int Tryz.underlying60).map id (fun _ => rfl) (fun _ h => u16_wf h)
theorem k25 : Codec Tryz.prog 25 (fun n : Int => [.v (.int .u32 n)]) (fun n => 0 ≤ n ∧ n ≤ 4294967295) := (Codec.int Tryz.underlying25).map id (fun _ => rfl) (fun _ h => u32_wf h)
theorem k9 : Codec Tryz.prog 9 P.cSt (fun _ => True) := fun H enc w base held fuel cs x hx hw => by
  obtain ⟨s, rfl, _⟩ := DataW.trod_string Tryz.underlying9 hx
  refine ⟨s, trivial, ?_⟩
  unfold P.cSt
  simp only [fsatL, fsat]
  exact ⟨_, [], rfl, rfl, rfl, rfl⟩
theorem k84 : Codec Tryz.prog 84 cBx OBx :=
  (Codec.struct Tryz.underlying84 (by kernel_rfl) (by kernel_rfl) (Parts.cons k5 y5 (Parts.cons k5 y5 (Parts.cons k5 y5 (Parts.cons k5 y5 (Parts.cons k5 y5 (Parts.cons k5 y5 (Parts.cons k60 y60 Parts.nil)))))))).map
    (fun x => ⟨x.1, x.2.1, x.2.2.1, x.2.2.2.1, x.2.2.2.2.1, x.2.2.2.2.2.1, x.2.2.2.2.2.2.1⟩) (fun _ => rfl) (fun _ h => ⟨h.1, h.2.1, h.2.2.1, h.2.2.2.1, h.2.2.2.2.1, h.2.2.2.2.2.1, h.2.2.2.2.2.2.1⟩)
theorem k22 : Codec Tryz.prog 22 (fun l : List Bx => [aBx l]) (fun l => l.length * 8 ≤ 140737488351232 ∧ ∀ b ∈ l, OBx b) :=
  (Codec.slice Tryz.underlying22 (by rw [y84]; decide) y84 b84 dBx k84).map id (fun _ => rfl) (fun _ h => ⟨h.1, h.2.2⟩)
theorem k77 : Codec Tryz.prog 77 (fun l : List ByteArray => [P.aSt l]) (fun l => l.length * 16 ≤ 140737488351232) :=
  (Codec.slice Tryz.underlying77 (by rw [y9]; decide) y9 b9 P.dSt k9).map id (fun _ => rfl) (fun _ h => h.1)
theorem k219 : Codec Tryz.prog 219 P.cWh (fun _ => True) :=
  (Codec.struct Tryz.underlying219 (by kernel_rfl) (by kernel_rfl) (Parts.cons k3 y3 (Parts.cons k2 y2 Parts.nil))).map (fun x => ⟨x.1, x.2.1⟩) (fun _ => rfl) (fun _ _ => trivial)
theorem k78 : Codec Tryz.prog 78 (fun l : List P.Whn => [P.aWh l]) (fun l => l.length * 16 ≤ 140737488351232) :=
  (Codec.slice Tryz.underlying78 (by rw [y219]; decide) y219 b219 P.dWh k219).map id (fun _ => rfl) (fun _ h => h.1)
theorem k284 : Codec Tryz.prog 284 P.cCt (fun _ => True) :=
  (Codec.struct Tryz.underlying284 (by kernel_rfl) (by kernel_rfl) (Parts.cons k9 y9 (Parts.cons k2 y2 (Parts.cons k2 y2 Parts.nil)))).map (fun x => ⟨x.1, x.2.1, x.2.2.1⟩) (fun _ => rfl) (fun _ _ => trivial)
theorem k80 : Codec Tryz.prog 80 (fun l : List P.Cnt => [P.aCt l]) (fun l => l.length * 32 ≤ 140737488351232) :=
  (Codec.slice Tryz.underlying80 (by rw [y284]; decide) y284 b284 P.dCt k284).map id (fun _ => rfl) (fun _ h => h.1)
theorem k79 : Codec Tryz.prog 79 (fun x : Int × Int => [iv x.1, iv x.2]) (fun _ => True) :=
  (Codec.array Tryz.underlying79 y2 (by kernel_rfl) (by kernel_rfl) (Parts.cons k2 y2 (Parts.cons k2 y2 Parts.nil))).map (fun x => (x.1, x.2.1)) (fun _ => rfl) (fun _ _ => trivial)
structure ORu (r : P.Rul) : Prop where
  rd : r.rd.length * 16 ≤ 140737488351232
  wh : r.wh.length * 16 ≤ 140737488351232
  cn : r.cn.length * 32 ≤ 140737488351232
theorem k82 : Codec Tryz.prog 82 P.cRu ORu :=
  (Codec.struct Tryz.underlying82 (by kernel_rfl) (by kernel_rfl) (Parts.cons k9 y9 (Parts.cons k77 y77 (Parts.cons k78 y78 (Parts.cons k79 y79 (Parts.cons k3 y3 (Parts.cons k79 y79 (Parts.cons k4 y4 (Parts.cons k80 y80 (Parts.cons k2 y2 Parts.nil)))))))))).map
    (fun x => ⟨x.1, x.2.1, x.2.2.1, x.2.2.2.1.1, x.2.2.2.1.2, x.2.2.2.2.1, x.2.2.2.2.2.1.1, x.2.2.2.2.2.1.2, x.2.2.2.2.2.2.1, x.2.2.2.2.2.2.2.1, x.2.2.2.2.2.2.2.2.1⟩) (fun _ => rfl) (fun _ h => ⟨h.2.1, h.2.2.1, h.2.2.2.2.2.2.2.1⟩)
theorem k74 : Codec Tryz.prog 74 (fun l : List P.Rul => [P.aRu l]) (fun l => l.length * 144 ≤ 140737488351232 ∧ ∀ r ∈ l, ORu r) :=
  (Codec.slice Tryz.underlying74 (by rw [y82]; decide) y82 b82 P.dRu k82).map id (fun _ => rfl) (fun _ h => ⟨h.1, h.2.2⟩)
structure OAu (a : P.Aut) : Prop where
  n : a.ru.length * 144 ≤ 140737488351232
  r : ∀ r ∈ a.ru, ORu r
theorem k76 : Codec Tryz.prog 76 P.cAu OAu :=
  (Codec.struct Tryz.underlying76 (by kernel_rfl) (by kernel_rfl) (Parts.cons k9 y9 (Parts.cons k2 y2 (Parts.cons k2 y2 (Parts.cons k74 y74 Parts.nil))))).map
    (fun x => ⟨x.1, x.2.1, x.2.2.1, x.2.2.2.1⟩) (fun _ => rfl) (fun _ h => ⟨h.2.2.2.1.1, h.2.2.2.1.2⟩)
theorem k23 : Codec Tryz.prog 23 (fun l : List P.Aut => [P.aAu l]) (fun l => l.length * 56 ≤ 140737488351232 ∧ ∀ a ∈ l, OAu a) :=
  (Codec.slice Tryz.underlying23 (by rw [y76]; decide) y76 b76 P.dAu k76).map id (fun _ => rfl) (fun _ h => ⟨h.1, h.2.2⟩)
theorem k66 : Codec Tryz.prog 66 P.cPs (fun _ => True) :=
  (Codec.struct Tryz.underlying66 (by kernel_rfl) (by kernel_rfl) (Parts.cons k9 y9 (Parts.cons k9 y9 (Parts.cons k2 y2 Parts.nil)))).map (fun x => ⟨x.1, x.2.1, x.2.2.1⟩) (fun _ => rfl) (fun _ _ => trivial)
theorem k24 : Codec Tryz.prog 24 (fun l : List P.Psg => [P.aPs l]) (fun l => l.length * 40 ≤ 140737488351232) :=
  (Codec.slice Tryz.underlying24 (by rw [y66]; decide) y66 b66 P.dPs k66).map id (fun _ => rfl) (fun _ h => h.1)
theorem OAu.gr {a : P.Aut} (h : OAu a) : P.GrA a := ⟨by have := h.n; omega, fun r hr => ⟨by have := (h.r r hr).rd; omega, by have := (h.r r hr).wh; omega, by have := (h.r r hr).cn; omega⟩⟩
end Go.Proofs.YtolnclkcokckeaaGreat
namespace Go.Proofs.YtolnclkcokckeaaGreat
open Go Sy Go.ChangeShapes Go.WideShapes Go.RowKit
set_option maxRecDepth 100000
set_option linter.unusedVariables false
theorem own : ownKnob Tryz.prog.godebug = none := by kernel_rfl
theorem laidOut : laidOutB Tryz.prog = true := by kernel_rfl
theorem walk3 (W : World) (v0 v1 v2 v3 : Value) (bx : List Bx) (l : List P.Aut) (ps : List P.Psg) (x : Int) (h0 : fsat (inW W) W (aBx bx) v0) (h1 : fsat (inW W) W (P.aAu l) v1) (h2 : fsat (inW W) W (P.aPs ps) v2) (h3 : fsat (inW W) W (.v (.int .u32 x)) v3) (obx : bx.length * 8 ≤ 140737488351232 ∧ ∀ b ∈ bx, OBx b) (ol : l.length * 56 ≤ 140737488351232 ∧ ∀ a ∈ l, OAu a) (ops : ps.length * 40 ≤ 140737488351232) (ox : 0 ≤ x ∧ x ≤ 4294967295) :
    Calls Tryz.prog 3 #[v0, v1, v2, v3] W fun e w' => e = .returned (.bool true) ∧ Below W.heap.size W w' := by
  have hf : Sy.Fn Tryz.prog 3 [aBx bx, P.aAu l, P.aPs ps, .v (.int .u32 x)] (bv true) := P.fn3 bx l ps x (by have := obx.1; omega) obx.2 (by have := ol.1; omega) (fun a ha => (ol.2 a ha).gr) (by have := ops; omega) ox
  refine (hf.2 (inW W) W [v0, v1, v2, v3] (fun b hb => hb) ?_).mono ?_
  · simp only [fsatT]
    exact ⟨v0, _, rfl, h0, v1, _, rfl, h1, v2, _, rfl, h2, v3, _, rfl, h3, rfl⟩
  · rintro e w' ⟨v, rfl, hb, hv⟩
    simp only [fsat] at hv
    exact ⟨by rw [hv], hb⟩
theorem lifted3 (os : Os) (started : os.Started) (H : Type) (enc : TypeId × Value → H) :
    ReturnsInHanded {} Tryz.checked os 3 .any (Rows.topLessAskedSpec.pre6 enc Tryz.prog Tryz.f3 Rows.topLessAskedRow.domain false) (Rows.topLessAskedSpec.post enc Tryz.prog Tryz.f3 false true false false) := by
  refine returnsInHanded_of_change_sized (C := Tryz.checked) own started (by kernel_rfl) Tryz.func3
    (ChangeSpec.witness6 (enc := enc) (C := Tryz.checked) false ⟨#[], #[.slice none 0 0, .slice none 0 0, .slice none 0 0, .int .u32 0], []⟩ 8 (by kernel_rfl) (by kernel_rfl) (by kernel_rfl) (by kernel_rfl)) ?_
  intro W base args ds gs before hval0 hW hcnd hsz _
  have hval : ∀ (j : Nat) t v, Tryz.f3.params[j]? = some t → args[j]? = some v → Value.okWide Tryz.prog W .any base t v := hval0
  have hW' := hW
  obtain ⟨p, q, hA0, hV, rfl, hfz, hnd⟩ := hW
  have hA : DataW.TrodAll enc Tryz.prog W 0 (fun _ => true) true Tryz.f3.params.toList args.toList ds p := hA0
  rw [Tryz.params3] at hA hval
  obtain ⟨v0, vs0, d0, ds0, p0, q0, hargs, rfl, rfl, h0, r0⟩ := trodAll_cons hA
  obtain ⟨v1, vs1, d1, ds1, p1, q1, rfl, rfl, rfl, h1, r1⟩ := trodAll_cons r0
  obtain ⟨v2, vs2, d2, ds2, p2, q2, rfl, rfl, rfl, h2, r2⟩ := trodAll_cons r1
  obtain ⟨v3, vs3, d3, ds3, p3, q3, rfl, rfl, rfl, h3, r3⟩ := trodAll_cons r2
  obtain ⟨rfl, rfl, rfl⟩ := trodAll_nil r3
  obtain rfl : args = #[v0, v1, v2, v3] := by cases args; simp_all
  obtain ⟨rfl, rfl⟩ := trodVars_none hV
  have hs : ∀ (j : Nat) t (d : DataW H), [22, 23, 24, 25][j]? = some t → [d0, d1, d2, d3][j]? = some d → ∀ n ∈ d.weights Tryz.prog t, n ≤ reachBytes := fun j t d ht hd n hn => by
    have hall := List.all_eq_true.1 hsz n (DataW.weights_mem_each (j := j) (t := t) (d := d) (by rw [Tryz.params3]; simpa using (List.getElem?_append_left (l₂ := _) (by have := (List.getElem?_eq_some_iff.1 ht).1; simpa using this)).trans ht) (by simpa using (List.getElem?_append_left (l₂ := _) (by have := (List.getElem?_eq_some_iff.1 hd).1; simpa using this)).trans hd) n hn)
    simpa using hall
  have lt0 : ∀ x ∈ p0, x.block < W.heap.size := by obtain ⟨m, hm⟩ := h0; exact DataW.trod_lt m _ _ _ hm
  have lt1 : ∀ x ∈ p1, x.block < W.heap.size := by obtain ⟨m, hm⟩ := h1; exact DataW.trod_lt m _ _ _ hm
  have lt2 : ∀ x ∈ p2, x.block < W.heap.size := by obtain ⟨m, hm⟩ := h2; exact DataW.trod_lt m _ _ _ hm
  have lt3 : ∀ x ∈ p3, x.block < W.heap.size := by obtain ⟨m, hm⟩ := h3; exact DataW.trod_lt m _ _ _ hm
  obtain ⟨bx, obx, s0⟩ := k22.arg1 (by kernel_rfl) (hval 0 22 v0 rfl rfl) h0 (hs 0 22 d0 rfl rfl)
  obtain ⟨l, ol, s1⟩ := k23.arg1 (by kernel_rfl) (hval 1 23 v1 rfl rfl) h1 (hs 1 23 d1 rfl rfl)
  obtain ⟨ps, ops, s2⟩ := k24.arg1 (by kernel_rfl) (hval 2 24 v2 rfl rfl) h2 (hs 2 24 d2 rfl rfl)
  obtain ⟨x, ox, s3⟩ := k25.arg1 (by kernel_rfl) (hval 3 25 v3 rfl rfl) h3 (hs 3 25 d3 rfl rfl)
  clear hA0 hval0
  refine (walk3 W v0 v1 v2 v3 bx l ps x s0 s1 s2 s3 obx ol ops ox).mono fun e W' ⟨he, bel⟩ => ?_
  subst he
  exact ⟨_, rfl, _, _, _, [], _, [], hW', trodAll_mk1 (shut_bool Tryz.underlying4 _), (trodAll_cons_mk (Below.trod laidOut (by kernel_rfl) (of_decide_eq_true (by kernel_rfl)) h0 bel lt0) (trodAll_cons_mk (Below.trod laidOut (by kernel_rfl) (of_decide_eq_true (by kernel_rfl)) h1 bel lt1) (trodAll_cons_mk (Below.trod laidOut (by kernel_rfl) (of_decide_eq_true (by kernel_rfl)) h2 bel lt2) (trodAll_cons_mk (Below.trod laidOut (by kernel_rfl) (of_decide_eq_true (by kernel_rfl)) h3 bel lt3) trodAll_mk0)))), rfl, bel.frame _, fun h => by cases h⟩
theorem over3 : Rows.topLessAskedRow.holds Tryz.pinned (OpenSpec.ofChange Rows.topLessAskedSpec) :=
  OpenClaim.holds_of_wide 3 Tryz.f3 rfl rfl rfl rfl rfl rfl rfl ⟨rfl, rfl, rfl, rfl, rfl⟩ rfl rfl rfl rfl rfl (by kernel_rfl) Tryz.func3 (by kernel_rfl)
    (of_decide_eq_true (by kernel_rfl)) (by unfold Func.isWrapper; first | (rw [if_pos (by decide +kernel)]; kernel_rfl) | (rw [if_neg (by decide +kernel)]; exact ⟨rfl, rfl⟩))
    (fun os started H enc _ => lifted3 os started H enc)
theorem top_less_asked_holds : Rows.TopLessAskedSaid := over3
end Go.Proofs.YtolnclkcokckeaaGreat
