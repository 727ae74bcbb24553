/- Part 5 of the proof of: For every log, list of claims, part and cap the law ClaimSettles returns true, and every argument reads behind the call as it read before. -/
import Derived.Test.YtgijpimjfoabjaaP4
import Derived.SizedLaws
import Derived.OpenShut
import Derived.Deep.Slices
import Derived.Carry
import Derived.ChangeOld
import Derived.ProofKit
import Derived.WideShapes
import Derived.ChangeShapes
/- Arguments, opened: what a type's cells hold, as data of a plain type. -/
namespace Sy
open Go Go.RowKit Go.Deep Go.ChangeShapes Go.WideShapes
set_option linter.unusedVariables false
set_option linter.unusedSimpArgs false

theorem fsatL_append {F : Nat → Prop} {w : World} : ∀ {l m : List AV} {vs us : List Value}, fsatL F w l vs → fsatL F w m us → fsatL F w (l ++ m) (vs ++ us)
  | [], m, vs, us, h, k => by simp only [fsatL] at h; subst h; simpa using k
  | c :: cs, m, vs, us, h, k => by
    simp only [fsatL] at h
    obtain ⟨x, xs, rfl, h1, h2, h3⟩ := h
    simp only [List.cons_append, fsatL]
    exact ⟨x, xs ++ us, rfl, h1, h2, fsatL_append h3 k⟩
theorem weightsAll_mem {H : Type} {P : Program} {e : Nat} : ∀ {l : List (DataW H)} {d : DataW H}, d ∈ l → ∀ n ∈ d.weights P e, n ∈ DataW.weightsAll P e l
  | x :: l, d, h, n, hn => by
    simp only [DataW.weightsAll, List.mem_append]
    rcases List.mem_cons.1 h with rfl | h
    · exact .inl hn
    · exact .inr (weightsAll_mem h n hn)
theorem cell_lt {w : World} {a : Addr} {v : Value} (h : w.cell? a = some v) : a.block < w.heap.size := by
  cases hb : w.heap[a.block]? with
  | none => simp [World.cell?, hb] at h
  | some o => exact (Array.getElem?_eq_some_iff.1 hb).1

abbrev inW (w : World) : Nat → Prop := fun b => b < w.heap.size
/-- The cells of a type are read as data. -/
def Codec (P : Program) (t : Nat) {α : Type} (f : α → List AV) (ok : α → Prop) : Prop :=
  ∀ (H : Type) (enc : TypeId × Value → H) (w : World) (base : Nat) (held : Bool) (fuel : Nat) (cs : List Value) (x : DataW H × List MemPlace),
    DataW.trod enc P w base (fun _ => true) held fuel t cs = some x → (∀ n ∈ x.1.weights P t, n ≤ reachBytes) → ∃ a, ok a ∧ fsatL (inW w) w (f a) cs
/-- parts one behind the other, from offset o to e -/
def Parts (P : Program) (ts : List (Nat × Nat)) (o e : Nat) {α : Type} (f : α → List AV) (ok : α → Prop) : Prop :=
  ∀ (H : Type) (enc : TypeId × Value → H) (w : World) (base : Nat) (held : Bool) (fuel : Nat) (cs : List Value) (xs : List (DataW H × List MemPlace)), xs.length = ts.length →
    (∀ (i : Nat) p, ts[i]? = some p → DataW.trod enc P w base (fun _ => true) held fuel p.1 ((cs.drop p.2).take (P.cellsOf p.1)) = xs[i]?) → (∀ (i : Nat) p y, ts[i]? = some p → xs[i]? = some y → ∀ n ∈ y.1.weights P p.1, n ≤ reachBytes) →
    ∃ a, ok a ∧ fsatL (inW w) w (f a) ((cs.drop o).take (e - o)) ∧ o ≤ e

section
variable {P : Program} {t e : Nat} {α β : Type} {f : α → List AV} {ok : α → Prop} {g : β → List AV} {okb : β → Prop}
theorem Codec.map (h : Codec P t f ok) (m : α → β) (hf : ∀ a, g (m a) = f a) (hok : ∀ a, ok a → okb (m a)) : Codec P t g okb := fun H enc w base held fuel cs x hx hw => by
  obtain ⟨a, h1, h2⟩ := h H enc w base held fuel cs x hx hw
  exact ⟨m a, hok a h1, by rw [hf]; exact h2⟩
theorem Codec.bool (hu : P.underlying t = some .bool) : Codec P t (fun b : Bool => [.v (.bool b)]) (fun _ => True) := fun H enc w base held fuel cs x hx hw => by
  obtain ⟨b, rfl, _⟩ := DataW.trod_bool hu hx
  refine ⟨b, trivial, ?_⟩
  simp only [fsatL, fsat]
  exact ⟨_, [], rfl, rfl, rfl, rfl⟩
theorem Codec.int {k : IntKind} (hu : P.underlying t = some (.int k)) : Codec P t (fun n : Int => [.v (.int k n)]) (fun n => (Lit.int k n).wf = true) := fun H enc w base held fuel cs x hx hw => by
  obtain ⟨n, rfl, _, hwf⟩ := DataW.trod_int hu hx
  refine ⟨n, hwf, ?_⟩
  simp only [fsatL, fsat]
  exact ⟨_, [], rfl, rfl, rfl, rfl⟩
theorem Codec.slice (hu : P.underlying t = some (.slice e)) (hpos : 0 < P.cellsOf e) {n bytes : Nat} (hn : P.cellsOf e = n) (hb : P.bytesOf e = bytes) (d : α) (h : Codec P e f ok) :
    Codec P t (fun l : List α => [.sl n d f l]) (fun l => l.length * bytes ≤ 140737488351232 ∧ l.length ≤ maxLen ∧ ∀ x ∈ l, ok x) := by
  subst hn; subst hb
  intro H enc w base held fuel cs x hx hw
  rcases DataW.trod_slice hu hx with ⟨rfl, _⟩ | ⟨a, len, cap, elems, rest, m, hf, rfl, rfl, hb, hl, hm, hlen, hel, hsp, hns⟩
  · refine ⟨[], ⟨by simp, by simp, fun x hx => by cases hx⟩, ?_⟩
    simp only [fsatL, fsat]
    exact ⟨_, [], rfl, rfl, ⟨none, 0, rfl, Nat.le_refl _, by simp, by simp⟩, rfl⟩
  · have hwt : (elems.length + rest.length) * P.bytesOf e ≤ reachBytes := hw _ (by simp [DataW.weights, hu])
    have hwe : ∀ y ∈ elems, ∀ m ∈ y.1.weights P e, m ≤ reachBytes := fun y hy m hm => hw m (by
      simp only [DataW.weights, hu, List.mem_cons, List.mem_append]
      exact .inr (.inl (weightsAll_mem (List.mem_map.2 ⟨y, hy, rfl⟩) m hm)))
    have helem : ∀ i, i < len → ∃ avs cs', w.cells? base (a.add (i * P.cellsOf e)) (P.cellsOf e) = some cs' ∧ ok avs ∧ fsatL (inW w) w (f avs) cs' := fun i hi => by
      have h1 := hel i hi
      rw [List.getElem?_eq_getElem (by omega)] at h1
      obtain ⟨cs', h2, h3⟩ := Option.bind_eq_some_iff.1 h1
      obtain ⟨avs, h4, h5⟩ := h H enc w base held m cs' _ h3 (hwe _ (List.getElem_mem _))
      exact ⟨avs, cs', h2, h4, h5⟩
    have hlist : ∀ m, m ≤ len → ∃ l : List α, l.length = m ∧ ∀ (i : Nat) y, l[i]? = some y → ∃ cs', w.cells? base (a.add (i * P.cellsOf e)) (P.cellsOf e) = some cs' ∧ ok y ∧ fsatL (inW w) w (f y) cs' := by
      intro m
      induction m with
      | zero => intro _; exact ⟨[], rfl, fun i y h => by simp at h⟩
      | succ m ihm =>
        intro hm'
        obtain ⟨l, h1, h2⟩ := ihm (by omega)
        obtain ⟨avs, cs', h3, h4, h5⟩ := helem m (by omega)
        refine ⟨l ++ [avs], by simp [h1], fun i y hy => ?_⟩
        by_cases hi : i < m
        · rw [List.getElem?_append_left (by omega)] at hy
          exact h2 i y hy
        · rw [List.getElem?_append_right (by omega)] at hy
          have : i = m := by
            have := (List.getElem?_eq_some_iff.1 hy).1
            simp at this; omega
          subst this
          simp [h1] at hy; subst hy
          exact ⟨cs', h3, h4, h5⟩
    obtain ⟨l, hll, hl2⟩ := hlist len (Nat.le_refl _)
    have hspot : ∀ {cs' : List Value}, w.cells? base (a.add (0 * P.cellsOf e)) (P.cellsOf e) = some cs' → a.block < w.heap.size ∧ a.spot = none := fun {cs'} hc => by
      have h0 : ∀ x : Addr, x.add 0 = x := fun x => by simp [Addr.add]
      rw [Nat.zero_mul, h0] at hc
      obtain ⟨_, h1, h2⟩ := World.cells?_some hc
      have h3 := h2 0 hpos
      rw [List.getElem?_eq_getElem (by omega), h0] at h3
      exact ⟨cell_lt h3, World.cell?_spot h3⟩
    have hcell : ∃ cs', cap = 0 ∨ w.cells? base (a.add (0 * P.cellsOf e)) (P.cellsOf e) = some cs' := by
      by_cases hc0 : cap = 0
      · exact ⟨[], .inl hc0⟩
      · obtain ⟨h1, h2⟩ := hsp rfl
        by_cases hl0 : len = 0
        · have h3 := h2 0 (by omega)
          rw [List.getElem?_eq_getElem (by omega)] at h3
          obtain ⟨cs', h4, _⟩ := Option.bind_eq_some_iff.1 h3
          rw [hl0, Nat.add_zero] at h4
          exact ⟨cs', .inr h4⟩
        · obtain ⟨_, cs', h3, _⟩ := helem 0 (by omega)
          exact ⟨cs', .inr h3⟩
    have hmid : cap = 0 ∨ ∃ b o, some a = some (⟨b, o, none⟩ : Addr) ∧ b < w.heap.size := by
      obtain ⟨cs', h1 | h1⟩ := hcell
      · exact .inl h1
      · obtain ⟨h2, h3⟩ := hspot h1
        obtain ⟨b, o, sp⟩ := a
        simp only at h2 h3; subst h3
        exact .inr ⟨b, o, rfl, h2⟩
    refine ⟨l, ⟨?_, by omega, fun y hy => ?_⟩, ?_⟩
    · rw [hll, ← hlen]
      exact Nat.le_trans (Nat.mul_le_mul_right _ (Nat.le_add_right _ _)) hwt
    · obtain ⟨i, hi⟩ := List.mem_iff_getElem?.1 hy
      obtain ⟨_, _, h4, _⟩ := hl2 i y hi
      exact h4
    · simp only [fsatL, fsat]
      refine ⟨_, [], rfl, rfl, ⟨some a, cap, by rw [hll], by omega, hmid, ?_⟩, rfl⟩
      by_cases hl0 : l = []
      · exact .inl hl0
      · right
        have : 0 < len := by rw [← hll]; exact List.length_pos_iff.2 hl0
        obtain ⟨_, cs', h1, _⟩ := helem 0 this
        obtain ⟨h2, h3⟩ := hspot h1
        obtain ⟨b, o, sp⟩ := a
        simp only at h2 h3; subst h3
        refine ⟨b, o, rfl, h2, fun i y hy => ?_⟩
        obtain ⟨cs', h4, h5, h6⟩ := hl2 i y hy
        obtain ⟨_, h7, h8⟩ := World.cells?_some h4
        refine ⟨?_, cs', fun j z hz => ?_, h6⟩
        · have := fsatL_len h6
          omega
        · have hj : j < P.cellsOf e := by rw [← h7]; exact (List.getElem?_eq_some_iff.1 hz).1
          have h9 := h8 j hj
          rw [hz] at h9
          have hadd : ∀ (b o k : Nat), (⟨b, o, none⟩ : Addr).add k = ⟨b, o + k, none⟩ := fun b o k => by
            unfold Addr.add
            split
            · rename_i h0; simp [h0]
            · rfl
          rw [hadd, hadd] at h9
          exact h9
theorem Parts.nil {o : Nat} : Parts P [] o o (fun _ : Unit => []) (fun _ => True) := fun H enc w base held fuel cs xs _ _ _ => ⟨(), trivial, by simp [fsatL], Nat.le_refl _⟩
theorem Parts.cons {ts : List (Nat × Nat)} {o c e : Nat} (h : Codec P t f ok) (hc : P.cellsOf t = c) (hs : Parts P ts (o + c) e g okb) : Parts P ((t, o) :: ts) o e (fun x : α × β => f x.1 ++ g x.2) (fun x => ok x.1 ∧ okb x.2) := by
  intro H enc w base held fuel cs xs hl ht hw
  obtain ⟨x, xs, rfl⟩ : ∃ x r, xs = x :: r := by
    cases xs with
    | nil => simp at hl
    | cons x r => exact ⟨x, r, rfl⟩
  obtain ⟨a, h1, h2⟩ := h H enc w base held fuel _ x (ht 0 _ rfl) (hw 0 _ _ rfl rfl)
  obtain ⟨b, h3, h4, h5⟩ := hs H enc w base held fuel cs xs (by simpa using hl) (fun i p hp => by simpa using ht (i + 1) p (by simpa using hp)) (fun i p y hp hy => hw (i + 1) p y (by simpa using hp) (by simpa using hy))
  refine ⟨(a, b), ⟨h1, h3⟩, ?_, by omega⟩
  subst hc
  have hsplit : (cs.drop o).take (e - o) = (cs.drop o).take (P.cellsOf t) ++ (cs.drop (o + P.cellsOf t)).take (e - (o + P.cellsOf t)) := by
    rw [← List.drop_drop, show e - o = P.cellsOf t + (e - (o + P.cellsOf t)) by omega, List.take_add]
  rw [hsplit]
  exact fsatL_append h2 h4
theorem Codec.struct {fs : Array Field} {ts : List (Nat × Nat)} {z : Nat} (hu : P.underlying t = some (.struct fs)) (hts : fs.toList.map (fun f => (f.type, f.offset)) = ts) (hz : P.cellsOf t = z) (h : Parts P ts 0 z f ok) : Codec P t f ok := by
  intro H enc w base held fuel cs x hx hw
  obtain ⟨xs, n, hf, rfl, hcl, hxl, hg⟩ := DataW.trod_struct hu hx
  subst hts
  obtain ⟨a, h1, h2, _⟩ := h H enc w base held n cs xs (by simp [hxl]) (fun i p hp => by
    rw [List.getElem?_map] at hp
    obtain ⟨fd, h3, rfl⟩ := Option.map_eq_some_iff.1 hp
    exact hg i fd (by simpa using h3)) (fun i p y hp hy m hm => by
    rw [List.getElem?_map] at hp
    obtain ⟨fd, h3, rfl⟩ := Option.map_eq_some_iff.1 hp
    refine hw m ?_
    simp only [DataW.weights, hu]
    refine DataW.weights_mem_each (j := i) (t := fd.type) (d := y.1) ?_ ?_ m hm
    · rw [List.getElem?_map, h3]; rfl
    · rw [List.getElem?_map, hy]; rfl)
  refine ⟨a, h1, ?_⟩
  rw [List.drop_zero, Nat.sub_zero, ← hz, ← hcl, List.take_length] at h2
  exact h2
theorem Codec.array {n z c : Nat} {ts : List (Nat × Nat)} (hu : P.underlying t = some (.array n e)) (hc : P.cellsOf e = c) (hts : (List.range n).map (fun i => (e, i * c)) = ts) (hz : P.cellsOf t = z) (h : Parts P ts 0 z f ok) : Codec P t f ok := by
  subst hc
  intro H enc w base held fuel cs x hx hw
  obtain ⟨xs, m, hf, rfl, hcl, hxl, hg⟩ := DataW.trod_array hu hx
  subst hts
  obtain ⟨a, h1, h2, _⟩ := h H enc w base held m cs xs (by simp [hxl]) (fun i p hp => by
    rw [List.getElem?_map] at hp
    obtain ⟨j, h3, rfl⟩ := Option.map_eq_some_iff.1 hp
    obtain ⟨hlt, he⟩ := List.getElem?_eq_some_iff.1 h3
    simp at hlt he; subst he
    exact hg i hlt) (fun i p y hp hy m hm => by
    rw [List.getElem?_map] at hp
    obtain ⟨j, h3, rfl⟩ := Option.map_eq_some_iff.1 hp
    refine hw m ?_
    simp only [DataW.weights, hu]
    exact weightsAll_mem (List.mem_map.2 ⟨y, List.mem_of_getElem? hy, rfl⟩) m hm)
  refine ⟨a, h1, ?_⟩
  rw [List.drop_zero, Nat.sub_zero, ← hz, ← hcl, List.take_length] at h2
  exact h2

/-- a parameter: a value of cells -/
theorem Codec.arg (h : Codec P t f ok) (hag : aggB P t = some true) {H : Type} {enc : TypeId × Value → H} {w : World} {base b0 : Nat} {held : Bool} {r : Reach} {v : Value} {d : DataW H} {p : List MemPlace}
    (hv : Value.okWide P w r b0 t v) (hx : DataW.Trod enc P w base (fun _ => true) held t v d p) (hw : ∀ n ∈ d.weights P t, n ≤ reachBytes) : ∃ a, ok a ∧ fsat (inW w) w (.agg (f a)) v := by
  obtain ⟨fuel, hf⟩ := hx
  obtain ⟨cs, rfl, _⟩ : ∃ cs, v = .agg cs ∧ cs.size = P.cellsOf t := by
    unfold Value.okWide at hv
    unfold aggB at hag
    cases hu : P.underlying t with
    | none => rw [hu] at hag; cases hag
    | some desc =>
      rw [hu] at hag hv
      cases desc <;> simp at hag
      all_goals (obtain ⟨cs, h1, h2, _⟩ := hv; exact ⟨cs, h1, h2⟩)
  obtain ⟨a, h1, h2⟩ := h H enc w base held fuel _ _ hf hw
  refine ⟨a, h1, ?_⟩
  simp only [fsat]
  exact ⟨cs.toList, by simp, h2⟩
/-- a parameter of one cell -/
theorem Codec.arg1 {g : α → AV} (h : Codec P t (fun a => [g a]) ok) (hag : aggB P t = some false) {H : Type} {enc : TypeId × Value → H} {w : World} {base b0 : Nat} {held : Bool} {r : Reach} {v : Value} {d : DataW H} {p : List MemPlace}
    (hv : Value.okWide P w r b0 t v) (hx : DataW.Trod enc P w base (fun _ => true) held t v d p) (hw : ∀ n ∈ d.weights P t, n ≤ reachBytes) : ∃ a, ok a ∧ fsat (inW w) w (g a) v := by
  obtain ⟨fuel, hf⟩ := hx
  obtain ⟨a, h1, h2⟩ := h H enc w base held fuel _ _ hf hw
  refine ⟨a, h1, ?_⟩
  simp only [fsatL] at h2
  obtain ⟨x, xs, h3, h4, h5, rfl⟩ := h2
  have : v.cells.toList = [v] := by
    cases v with
    | agg cs =>
      exfalso
      unfold Value.okWide at hv
      unfold aggB at hag
      cases hu : P.underlying t with
      | none => rw [hu] at hag; cases hag
      | some desc =>
        rw [hu] at hag hv
        cases desc <;> simp at hag
        all_goals first
          | (obtain ⟨b, hb⟩ := okWide_bool hu (by unfold Value.okWide; rw [hu]; exact hv); cases hb)
          | (obtain ⟨b, hb⟩ := okWide_int hu (by unfold Value.okWide; rw [hu]; exact hv); cases hb)
          | (obtain ⟨b, hb⟩ := okWide_string hu (by unfold Value.okWide; rw [hu]; exact hv); cases hb)
          | (obtain ⟨_, _, _, hb⟩ := okWide_slice hu (by unfold Value.okWide; rw [hu]; exact hv); cases hb)
          | (simp [Cell.okWide, Cell.ok, hu] at hv)
          | skip
        all_goals simp [DataW.trod, hu] at hf
    | _ => rfl
  rw [this] at h3
  obtain ⟨rfl, _⟩ := List.cons.inj h3
  exact h5
end
end Sy

