/- Part 7 of the proof of: TopDriven: for every input the law returns true -/
import Derived.Test.YtlahcoaofbpinaaGreatP6
namespace Go.Proofs.YtlahcoaofbpinaaGreat
open Go Sy
set_option linter.unusedVariables false
def lgR (m : R.Mp) (D x : Int) : S.Lg := ⟨(R.gr m x.toNat).m, S.wl (R.gr m x.toNat).o (R.gr m x.toNat).z D 30⟩
def lgs (m : R.Mp) (D : Int) (xs : List Int) : List S.Lg := xs.map (lgR m D)
theorem lgs_len (m : R.Mp) (D : Int) (xs : List Int) : (lgs m D xs).length = xs.length := by unfold lgs; rw [List.length_map]
theorem lgs_at {m : R.Mp} {D : Int} {xs : List Int} {i : Nat} (h : i < xs.length) : S.gl (lgs m D xs) i = lgR m D (S.gi xs i) := by
  unfold lgs S.gl S.gi
  simp [List.getD, h]
structure Drv (m : R.Mp) (xs : List Int) (t e : Int) : Prop where
  ok : R.OkM m
  rg : ∀ x ∈ xs, 0 ≤ x ∧ x < m.rs.length
  n : xs.length ≤ 9
  s : 0 ≤ t ∧ t ≤ 5000
  e : R.ptL m xs t xs.length = e
  m : ∀ i, i < m.rs.length → (R.gr m i).m ≤ 60
section
variable {m : R.Mp} {xs : List Int} {t e : Int}
theorem Drv.at (h : Drv m xs t e) {i : Nat} (hi : i < xs.length) : R.OkR m.n (R.gr m (S.gi xs i).toNat) ∧ (R.gr m (S.gi xs i).toNat).m ≤ 60 := by
  have := h.rg _ (R.getD_mem' 0 xs i hi)
  have hx : (S.gi xs i).toNat < m.rs.length := by show (xs.getD i 0).toNat < _; omega
  exact ⟨R.roadB_ok (h.ok.r _ hx), h.m _ hx⟩
theorem lv_dp (r : R.Rd) (t : Int) : R.lvT r t = S.dpT r.o r.m r.z t + r.m := rfl
theorem Drv.pt (h : Drv m xs t e) : ∀ i, i ≤ xs.length → t ≤ R.ptL m xs t i ∧ R.ptL m xs t i ≤ t + 4320 * i
  | 0, _ => ⟨Int.le_refl _, by show t ≤ _; omega⟩
  | i + 1, hi => by
    have ih := h.pt i (by omega)
    have := R.lvT_rng (h.at (i := i) (by omega)).1 (R.ptL m xs t i) (by have := h.s; omega)
    rw [R.pt_succ (by omega)]
    have e0 : R.gi xs i = S.gi xs i := rfl
    rw [e0]
    omega
theorem Drv.cr (h : Drv m xs t e) {a b : Int} (ha : 60 ≤ a ∧ a ≤ 10080) (hb : 1 ≤ b ∧ b ≤ 10080) : S.crE (lgs m (t / 1440) xs) a b t = 0 := by
  have hs := h.s
  have hn := h.n
  have w1 : (lgs m (t / 1440) xs).any S.wlB = false := by
    rw [← Bool.not_eq_true, List.any_eq_true]
    rintro ⟨x, hx, hq⟩
    obtain ⟨y, _, rfl⟩ := List.mem_map.1 hx
    unfold S.wlB lgR at hq
    rw [decide_eq_true_eq, S.wl_len] at hq
    omega
  have w2 : (lgs m (t / 1440) xs).any (S.lgB a) = false := by
    rw [← Bool.not_eq_true, List.any_eq_true]
    rintro ⟨x, hx, hq⟩
    obtain ⟨y, hy, rfl⟩ := List.mem_map.1 hx
    have hr := h.rg y hy
    have ok := R.roadB_ok (h.ok.r y.toNat (by omega))
    have h60 := h.m y.toNat (by omega)
    have ho := ok.o
    have hm := ok.m
    have g1 : S.inR (lgR m (t / 1440) y).mi 1 a = true := S.inR_iff.2 ⟨hm.1, by show (R.gr m y.toNat).m ≤ a; omega⟩
    have g2 : S.wnB (lgR m (t / 1440) y).ws = true := S.wnB_iff.2 (S.wl_ok ho 30 _ 0 (by omega) (by omega))
    unfold S.lgB at hq
    rw [g1, g2] at hq
    cases hq
  unfold S.crE
  rw [w1, w2, S.inR_iff.2 ⟨by omega, ha.2⟩, S.inR_iff.2 hb, S.inR_iff.2 (by omega), lgs_len, decide_eq_false (by omega)]
  rfl
def dps (m : R.Mp) (xs : List Int) (t : Int) : List Int := S.lsF xs.length fun i => S.dpT (R.gr m (S.gi xs i).toNat).o (R.gr m (S.gi xs i).toNat).m (R.gr m (S.gi xs i).toNat).z (R.ptL m xs t i)
theorem dps_at {i : Nat} (hi : i < xs.length) : S.gi (dps m xs t) i + (R.gr m (S.gi xs i).toNat).m = R.ptL m xs t (i + 1) := by
  unfold dps
  rw [S.lsF_get hi, R.pt_succ hi]; rfl
theorem dps_pe : ∀ i, i < xs.length → S.peC (lgs m (t / 1440) xs) t (dps m xs t) i = R.ptL m xs t i
  | 0, _ => rfl
  | i + 1, hi => by
    unfold S.peC
    rw [if_neg (by omega), Nat.add_sub_cancel, lgs_at (by omega)]
    exact dps_at (by omega)
theorem Drv.dv (h : Drv m xs t e) (b : Int) (l : List Int) : ∀ i, i ≤ xs.length → S.dvC (lgs m (t / 1440) xs) b l i ≤ 60 * i
  | 0, _ => Int.le_refl 0
  | i + 1, hi => by
    have ih := h.dv b l i (by omega)
    have h60 := (h.at (i := i) (by omega)).2
    have hg : (S.gl (lgs m (t / 1440) xs) i).mi ≤ 60 := by rw [lgs_at (by omega)]; exact h60
    have h0 := (h.at (i := i) (by omega)).1.m
    show (if 0 < i ∧ b ≤ S.gi l i - S.peC (lgs m (t / 1440) xs) 0 l i then 0 else S.dvC (lgs m (t / 1440) xs) b l i) + (S.gl (lgs m (t / 1440) xs) i).mi ≤ _
    push_cast
    split <;> omega
theorem Drv.ck (h : Drv m xs t e) : S.ckE (lgs m (t / 1440) xs) 10080 1 t (dps m xs t) = 0 := by
  have hl : (dps m xs t).length = (lgs m (t / 1440) xs).length := by unfold dps; rw [S.lsF_len, lgs_len]
  refine (S.ck_zero (h.cr (by omega) (by omega)) hl).2 ⟨fun i hi => ?_, fun i hi => ?_⟩
  · rw [lgs_len] at hi
    have hp := h.pt i (by omega)
    have ok := (h.at hi).1
    have ho := ok.o
    have hm := ok.m
    have hs := h.s
    have hn := h.n
    rw [dps_pe i hi, lgs_at hi]
    dsimp only [lgR]
    have hd : S.gi (dps m xs t) i = S.dpT (R.gr m (S.gi xs i).toNat).o (R.gr m (S.gi xs i).toNat).m (R.gr m (S.gi xs i).toNat).z (R.ptL m xs t i) := by unfold dps; rw [S.lsF_get hi]
    rw [hd]
    exact ⟨S.dp_ge (by omega), S.dp_fit ho (by omega) (by omega) (by omega)⟩
  · rw [lgs_len] at hi
    have := h.dv 1 (dps m xs t) (i + 1) (by omega)
    have hn := h.n
    omega
theorem Drv.ge (h : Drv m xs t e) {a b : Int} {l : List Int} (ha : 60 ≤ a ∧ a ≤ 10080) (hb : 1 ≤ b ∧ b ≤ 10080) (hc : S.ckE (lgs m (t / 1440) xs) a b t l = 0) : ∀ i, i < xs.length →
    R.ptL m xs t (i + 1) ≤ S.gi l i + (R.gr m (S.gi xs i).toNat).m ∧ t ≤ S.gi l i ∧ (R.gr m (S.gi xs i).toNat).o ≤ S.gi l i % 1440 ∧ S.gi l i % 1440 + (R.gr m (S.gi xs i).toNat).m ≤ (R.gr m (S.gi xs i).toNat).z := by
  obtain ⟨_, hl⟩ := S.ck_len hc
  obtain ⟨hk, _⟩ := (S.ck_zero (h.cr ha hb) hl).1 hc
  have core : ∀ i, i < xs.length → R.ptL m xs t i ≤ S.peC (lgs m (t / 1440) xs) t l i → R.ptL m xs t (i + 1) ≤ S.gi l i + (R.gr m (S.gi xs i).toNat).m ∧ t ≤ S.gi l i ∧ (R.gr m (S.gi xs i).toNat).o ≤ S.gi l i % 1440 ∧ S.gi l i % 1440 + (R.gr m (S.gi xs i).toNat).m ≤ (R.gr m (S.gi xs i).toNat).z := by
    intro i hi key
    obtain ⟨k1, k2⟩ := hk i (by rw [lgs_len]; exact hi)
    have hp := h.pt i (by omega)
    have ok := (h.at hi).1
    have ho := ok.o
    have hm := ok.m
    rw [lgs_at hi] at k2
    dsimp only [lgR] at k2
    have f1 := S.fit_day ho (by omega) k2
    have f2 := S.fit_dp ho (by omega) k2 k1
    have f3 := R.lvT_up ok (a := R.ptL m xs t i) (b := S.peC (lgs m (t / 1440) xs) t l i) (by have := h.s; omega) key
    rw [lv_dp _ (S.peC (lgs m (t / 1440) xs) t l i)] at f3
    rw [R.pt_succ hi]
    have e0 : R.gi xs i = S.gi xs i := rfl
    rw [e0]
    exact ⟨by omega, by omega, f1.1, f1.2⟩
  intro i
  induction i with
  | zero => exact fun hi => core 0 hi (Int.le_refl _)
  | succ i ih =>
    intro hi
    refine core (i + 1) hi ?_
    have := (ih (by omega)).1
    unfold S.peC
    rw [if_neg (by omega), Nat.add_sub_cancel, lgs_at (by omega)]
    exact this
theorem Drv.law (h : Drv m xs t e) (hn : 0 < xs.length) : S.crF (lgs m (t / 1440) xs) 10080 1 t = 0 ∧ (S.crL (lgs m (t / 1440) xs) 10080 1 t).length = xs.length ∧ S.gi (S.crL (lgs m (t / 1440) xs) 10080 1 t) (xs.length - 1) + (R.gr m (S.gi xs (xs.length - 1)).toNat).m = e := by
  have h0 := h.cr (a := 10080) (b := 1) (by omega) (by omega)
  have hl : 0 < (lgs m (t / 1440) xs).length := by rw [lgs_len]; exact hn
  obtain ⟨b1, b2, _⟩ := S.ck_best hl h.ck
  have c1 := S.cr_ok hl h0 b1
  refine ⟨by rw [S.crF_iff h0 hl, if_neg b1], by rw [S.cr_len b1, lgs_len], ?_⟩
  have g := (h.ge (by omega) (by omega) c1 (xs.length - 1) (by omega)).1
  rw [lgs_len] at b2
  have d := dps_at (m := m) (xs := xs) (t := t) (i := xs.length - 1) (by omega)
  rw [Nat.sub_add_cancel hn, h.e] at g d
  omega
theorem Drv.rest (h : Drv m xs t e) (hn : 0 < xs.length) {a b : Int} (ha : 60 ≤ a ∧ a ≤ 10080) (hb : 1 ≤ b ∧ b ≤ 10080) : S.crF (lgs m (t / 1440) xs) a b t = 15 ∨
    (S.crF (lgs m (t / 1440) xs) a b t = 0 ∧ (S.crL (lgs m (t / 1440) xs) a b t).length = xs.length ∧ S.gi (S.crL (lgs m (t / 1440) xs) 10080 1 t) (xs.length - 1) ≤ S.gi (S.crL (lgs m (t / 1440) xs) a b t) (xs.length - 1) ∧
     ∀ i, i < xs.length → t ≤ S.gi (S.crL (lgs m (t / 1440) xs) a b t) i ∧ (R.gr m (S.gi xs i).toNat).o ≤ S.gi (S.crL (lgs m (t / 1440) xs) a b t) i % 1440 ∧ S.gi (S.crL (lgs m (t / 1440) xs) a b t) i % 1440 + (R.gr m (S.gi xs i).toNat).m ≤ (R.gr m (S.gi xs i).toNat).z) := by
  have h0 := h.cr ha hb
  have hl : 0 < (lgs m (t / 1440) xs).length := by rw [lgs_len]; exact hn
  by_cases hz : S.crL (lgs m (t / 1440) xs) a b t = []
  · left; rw [S.crF_iff h0 hl, if_pos hz]
  right
  have c1 := S.cr_ok hl h0 hz
  refine ⟨by rw [S.crF_iff h0 hl, if_neg hz], by rw [S.cr_len hz, lgs_len], ?_, fun i hi => (h.ge ha hb c1 i hi).2⟩
  have g := (h.ge ha hb c1 (xs.length - 1) (by omega)).1
  have l := (h.law hn).2.2
  rw [Nat.sub_add_cancel hn, h.e] at g
  omega
end
end Go.Proofs.YtlahcoaofbpinaaGreat
