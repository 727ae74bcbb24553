/- Part 4 of the proof of: If a track is right, each of its points is near the guide, whatever the input. -/
import Derived.Test.YtmekmmgiamjfoaaGreatP3
namespace Go.Proofs.YtmekmmgiamjfoaaGreat.U
set_option linter.unusedVariables false
section
variable {α : Type} (lt : α → α → Bool)
def ins (v : α) : List α → List α
 |[]=>[v]
 |u :: l=>if lt v u = true then v :: u :: l else u :: ins v l
def isort (l : List α) : List α:=l.foldl (fun o v=>ins lt v o) []
structure SW (lt : α → α → Bool) : Prop where
 asym : ∀ {a b},lt a b = true → lt b a = false
 nt : ∀ {a b c},lt b a = false → lt c b = false → lt c a = false
def SrtL (l : List α) : Prop:=l.Pairwise (fun a b=>lt b a = false)
variable {lt}
theorem ins_split {v : α} : ∀ {A B : List α},(∀ a ∈ A,lt v a = false) → (∀ b ∈ B,lt v b = true) → ins lt v (A ++ B) = A ++ v :: B
 |[],[],_,_=>rfl
 |[],b :: B,_,h=>by
  simp only [List.nil_append,ins]
  rw [if_pos (h b List.mem_cons_self)]
 |a :: A,B,h1,h2=>by
  simp only [List.cons_append,ins]
  rw [if_neg (by rw [h1 a List.mem_cons_self];decide),ins_split (fun x hx=>h1 x (List.mem_cons_of_mem _ hx)) h2]
theorem ins_len {v : α} : ∀ {l : List α},(ins lt v l).length = l.length + 1
 |[]=>rfl
 |u :: l=>by
  simp only [ins]
  split
  ·simp
  ·simp [ins_len (l:=l)]
theorem ins_mem {v x : α} : ∀ {l : List α},x ∈ ins lt v l ↔ x = v ∨ x ∈ l
 |[]=>by simp [ins]
 |u :: l=>by
  simp only [ins]
  split
  ·simp
  ·simp only [List.mem_cons,ins_mem (l:=l)]
   constructor
   ·rintro (h | h | h)
    ·exact .inr (.inl h)
    ·exact .inl h
    ·exact .inr (.inr h)
   ·rintro (h | h | h)
    ·exact .inr (.inl h)
    ·exact .inl h
    ·exact .inr (.inr h)
theorem srt_ins (h : SW lt) {v : α} : ∀ {l : List α},SrtL lt l → SrtL lt (ins lt v l)
 |[],_=>by simp [ins,SrtL]
 |u :: l,hs=>by
  unfold SrtL at hs
  rw [List.pairwise_cons] at hs
  simp only [ins]
  split
  ·rename_i q
   unfold SrtL
   rw [List.pairwise_cons,List.pairwise_cons]
   refine ⟨fun x hx=>?_,hs⟩
   rcases List.mem_cons.1 hx with rfl | hx
   ·exact h.asym q
   ·exact h.nt (h.asym q) (hs.1 x hx)
  ·rename_i q
   have q' : lt v u = false:=by simpa using q
   unfold SrtL
   rw [List.pairwise_cons]
   refine ⟨fun x hx=>?_,srt_ins h hs.2⟩
   rcases ins_mem.1 hx with rfl | hx
   ·exact q'
   ·exact hs.1 x hx
theorem isort_snoc (l : List α) (v : α) : isort lt (l ++ [v]) = ins lt v (isort lt l):=by
 unfold isort
 rw [List.foldl_append];rfl
theorem snoc_ind {P : List α → Prop} (h0 : P []) (h1 : ∀ l v,P l → P (l ++ [v])) : ∀ l,P l:=by
 have key : ∀ l : List α,P l.reverse:=by
  intro l
  induction l with
  |nil=>exact h0
  |cons x l ih=>rw [List.reverse_cons];exact h1 _ _ ih
 intro l
 have:=key l.reverse
 rwa [List.reverse_reverse] at this
theorem isort_len (l : List α) : (isort lt l).length = l.length:=snoc_ind (P:=fun l=>(isort lt l).length = l.length) rfl (fun l v ih=>by rw [isort_snoc,ins_len,ih,List.length_append];rfl) l
theorem srt_isort (h : SW lt) (l : List α) : SrtL lt (isort lt l):=snoc_ind (P:=fun l=>SrtL lt (isort lt l)) (by simp [isort,SrtL]) (fun l v ih=>by rw [isort_snoc];exact srt_ins h ih) l
theorem isort_mem {x : α} (l : List α) : x ∈ isort lt l ↔ x ∈ l:=snoc_ind (P:=fun l=>x ∈ isort lt l ↔ x ∈ l) (by simp [isort]) (fun l v ih=>by
 rw [isort_snoc,ins_mem,ih,List.mem_append,List.mem_singleton]
 exact Or.comm) l
theorem at_cons {A B : List α} {x d : α} {i : Nat} (h : A.length = i) : (A ++ x :: B).getD i d = x:=by
 simp only [List.getD_eq_getElem?_getD]
 rw [List.getElem?_append_right (by omega),h,Nat.sub_self];rfl
theorem set_cons {A B : List α} {x y : α} {i : Nat} (h : A.length = i) : (A ++ x :: B).set i y = A ++ y :: B:=by
 rw [List.set_append_right _ _ (by omega),h,Nat.sub_self];rfl
theorem srt_get {l : List α} (h : SrtL lt l) (d : α) {i j : Nat} (hij : i < j) (hj : j < l.length) : lt (l.getD j d) (l.getD i d) = false:=by
 have:=List.pairwise_iff_getElem.1 h i j (by omega) hj hij
 simpa [List.getD,hj,show i < l.length by omega] using this
theorem mem_take2 {l : List α} {x d : α} {n : Nat} (hx : x ∈ l.take n) : ∃ i,i < n ∧ i < l.length ∧ x = l.getD i d:=by
 obtain ⟨i,hi,rfl⟩:=List.getElem_of_mem hx
 rw [List.length_take] at hi
 refine ⟨i,by omega,by omega,?_⟩
 rw [List.getElem_take]
 simp [List.getD,show i < l.length by omega]
theorem le_of_at (hw : SW lt) {l : List α} (h : SrtL lt l) (d : α) {n : Nat} {v : α} (hn : n = 0 ∨ lt v (l.getD (n - 1) d) = false) (hn2 : n ≤ l.length) : ∀ u ∈ l.take n,lt v u = false:=fun u hu=>by
 obtain ⟨i,h1,h2,rfl⟩:=mem_take2 (d:=d) hu
 rcases hn with hn | hn
 ·omega
 ·by_cases q : i = n - 1
  ·rw [q];exact hn
  ·exact hw.nt (srt_get h d (show i < n - 1 by omega) (by omega)) hn
theorem ins_at (hw : SW lt) {U : List α} (h : SrtL lt U) (d v : α) {t : Nat} (ht : t ≤ U.length) (h1 : t = 0 ∨ lt v (U.getD (t - 1) d) = false) (h2 : ∀ u ∈ U.drop t,lt v u = true) : ins lt v U = U.take t ++ v :: U.drop t:=by
 have:=ins_split (A:=U.take t) (B:=U.drop t) (le_of_at hw h d h1 ht) h2
 rwa [List.take_append_drop] at this
def insL (P A : List α) (v : α) (e : Nat) (Q : List α) : List α:=(P ++ A.take e) ++ v :: (A.drop e ++ Q)
theorem insL_len {P A Q : List α} {v : α} {e : Nat} (he : e ≤ A.length) : (insL P A v e Q).length = P.length + A.length + 1 + Q.length:=by
 unfold insL
 simp only [List.length_append,List.length_cons,List.length_take,List.length_drop];omega
theorem insL_at {P A Q : List α} {v : α} (d : α) {e : Nat} (he : e ≤ A.length) : (insL P A v e Q).getD (P.length + e) d = v:=by
 unfold insL
 exact at_cons (by rw [List.length_append,List.length_take];omega)
theorem insL_dn {P A Q : List α} {v : α} (d : α) {e : Nat} (he : e < A.length) :
  (insL P A v (e + 1) Q).getD (P.length + e) d = A.getD e d ∧ ((insL P A v (e + 1) Q).set (P.length + (e + 1)) (A.getD e d)).set (P.length + e) v = insL P A v e Q:=by
 have e1 : A.drop e = A.getD e d :: A.drop (e + 1):=by rw [List.drop_eq_getElem_cons he];simp [List.getD,he]
 have e3 : A.take (e + 1) = A.take e ++ [A.getD e d]:=by rw [List.take_succ_eq_append_getElem he];simp [List.getD,he]
 have l1 : (P ++ A.take e).length = P.length + e:=by rw [List.length_append,List.length_take];omega
 unfold insL
 rw [e3,e1]
 generalize A.getD e d = x
 have l3 : (P ++ (A.take e ++ [x])).length = P.length + (e + 1):=by rw [← List.append_assoc,List.length_append,l1];rfl
 constructor
 ·have r : (P ++ (A.take e ++ [x])) ++ v :: (A.drop (e + 1) ++ Q) = (P ++ A.take e) ++ x :: (v :: (A.drop (e + 1) ++ Q)):=by simp
  rw [r];exact at_cons l1
 ·rw [set_cons l3]
  have r : (P ++ (A.take e ++ [x])) ++ x :: (A.drop (e + 1) ++ Q) = (P ++ A.take e) ++ x :: (x :: (A.drop (e + 1) ++ Q)):=by simp
  rw [r,set_cons l1]
  simp
end
end Go.Proofs.YtmekmmgiamjfoaaGreat.U
