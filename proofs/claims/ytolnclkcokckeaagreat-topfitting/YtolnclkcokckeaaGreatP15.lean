/- Part 15 of the proof of: For every input the law TopFitting returns true: the windows of a passage and the first time at which it fits into them are the first time at which the permits let it begin. -/
import Derived.Test.YtolnclkcokckeaaGreatP14
namespace Go.Proofs.YtolnclkcokckeaaGreat.P
open Go Sy
set_option linter.unusedVariables false
structure LeI (s s' : In) : Prop where
 cd : ∀ c ∈ s.cd,c ∈ s'.cd
 fe : s.fe ≤ s'.fe
 ls : ∀ r ∈ s.ls,r ∈ s'.ls
structure LeD (s s' : Dk) : Prop where
 cd : ∀ c ∈ s.cd,c ∈ s'.cd
 fe : s.fe ≤ s'.fe
 no : s.no = s'.no
 us : s.us = s'.us
 ps : ∀ j,(s.ps.getD j dRs).mi = (s'.ps.getD j dRs).mi ∧ ∀ r ∈ (s.ps.getD j dRs).ls,r ∈ (s'.ps.getD j dRs).ls
end Go.Proofs.YtolnclkcokckeaaGreat.P
namespace Go.Proofs.YtolnclkcokckeaaGreat
open Go Sy
set_option maxRecDepth 100000
set_option linter.unusedVariables false
theorem u8_wf {n : Int} (h : (Lit.int .u8 n).wf = true) : 0 ≤ n ∧ n ≤ 255:=by
 simp [Lit.wf,IntKind.min,IntKind.max,IntKind.bits,IntKind.signed] at h
 omega
theorem u16_wf {n : Int} (h : (Lit.int .u16 n).wf = true) : 0 ≤ n ∧ n ≤ 65535:=by
 simp [Lit.wf,IntKind.min,IntKind.max,IntKind.bits,IntKind.signed] at h
 omega
theorem u32_wf {n : Int} (h : (Lit.int .u32 n).wf = true) : 0 ≤ n ∧ n ≤ 4294967295:=by
 simp [Lit.wf,IntKind.min,IntKind.max,IntKind.bits,IntKind.signed] at h
 omega
theorem y2 : Tryz.prog.cellsOf 2 = 1:=by kernel_rfl
theorem y3 : Tryz.prog.cellsOf 3 = 1:=by kernel_rfl
theorem y4 : Tryz.prog.cellsOf 4 = 1:=by kernel_rfl
theorem y5 : Tryz.prog.cellsOf 5 = 1:=by kernel_rfl
theorem y9 : Tryz.prog.cellsOf 9 = 1:=by kernel_rfl
theorem y24 : Tryz.prog.cellsOf 24 = 1:=by kernel_rfl
theorem y27 : Tryz.prog.cellsOf 27 = 6:=by kernel_rfl
theorem y66 : Tryz.prog.cellsOf 66 = 3:=by kernel_rfl
theorem y74 : Tryz.prog.cellsOf 74 = 1:=by kernel_rfl
theorem y76 : Tryz.prog.cellsOf 76 = 4:=by kernel_rfl
theorem y77 : Tryz.prog.cellsOf 77 = 1:=by kernel_rfl
theorem y78 : Tryz.prog.cellsOf 78 = 1:=by kernel_rfl
theorem y79 : Tryz.prog.cellsOf 79 = 2:=by kernel_rfl
theorem y80 : Tryz.prog.cellsOf 80 = 1:=by kernel_rfl
theorem y82 : Tryz.prog.cellsOf 82 = 11:=by kernel_rfl
theorem y219 : Tryz.prog.cellsOf 219 = 2:=by kernel_rfl
theorem y284 : Tryz.prog.cellsOf 284 = 3:=by kernel_rfl
theorem b9 : Tryz.prog.bytesOf 9 = 16:=by kernel_rfl
theorem b66 : Tryz.prog.bytesOf 66 = 40:=by kernel_rfl
theorem b76 : Tryz.prog.bytesOf 76 = 56:=by kernel_rfl
theorem b82 : Tryz.prog.bytesOf 82 = 144:=by kernel_rfl
theorem b219 : Tryz.prog.bytesOf 219 = 16:=by kernel_rfl
theorem b284 : Tryz.prog.bytesOf 284 = 32:=by kernel_rfl
theorem k2 : Codec Tryz.prog 2 (fun n : Int=>[iv n]) (fun _=>True):=(Codec.int Tryz.underlying2).map id (fun _=>rfl) (fun _ _=>trivial)
theorem k3 : Codec Tryz.prog 3 (fun n : Int=>[iv n]) (fun _=>True):=(Codec.int Tryz.underlying3).map id (fun _=>rfl) (fun _ _=>trivial)
theorem k4 : Codec Tryz.prog 4 (fun b : Bool=>[.v (.bool b)]) (fun _=>True):=Codec.bool Tryz.underlying4
theorem k5 : Codec Tryz.prog 5 (fun n : Int=>[.v (.int .u8 n)]) (fun n=>0 ≤ n ∧ n ≤ 255):=(Codec.int Tryz.underlying5).map id (fun _=>rfl) (fun _ h=>u8_wf h)
theorem k60 : Codec Tryz.prog 60 (fun n : Int=>[.v (.int .u16 n)]) (fun n=>0 ≤ n ∧ n ≤ 65535):=(Codec.int Tryz.underlying60).map id (fun _=>rfl) (fun _ h=>u16_wf h)
theorem k25 : Codec Tryz.prog 25 (fun n : Int=>[.v (.int .u32 n)]) (fun n=>0 ≤ n ∧ n ≤ 4294967295):=(Codec.int Tryz.underlying25).map id (fun _=>rfl) (fun _ h=>u32_wf h)
theorem k9 : Codec Tryz.prog 9 P.cSt (fun _=>True):=fun H enc w base held fuel cs x hx hw=>by
 obtain ⟨s,rfl,_⟩:=DataW.trod_string Tryz.underlying9 hx
 refine ⟨s,trivial,?_⟩
 unfold P.cSt
 simp only [fsatL,fsat]
 exact ⟨_,[],rfl,rfl,rfl,rfl⟩
theorem k77 : Codec Tryz.prog 77 (fun l : List ByteArray=>[P.aSt l]) (fun l=>l.length * 16 ≤ 140737488351232):=
 (Codec.slice Tryz.underlying77 (by rw [y9];decide) y9 b9 P.dSt k9).map id (fun _=>rfl) (fun _ h=>h.1)
theorem k219 : Codec Tryz.prog 219 P.cWh (fun _=>True):=
 (Codec.struct Tryz.underlying219 (by kernel_rfl) (by kernel_rfl) (Parts.cons k3 y3 (Parts.cons k2 y2 Parts.nil))).map (fun x=>⟨x.1,x.2.1⟩) (fun _=>rfl) (fun _ _=>trivial)
theorem k78 : Codec Tryz.prog 78 (fun l : List P.Whn=>[P.aWh l]) (fun l=>l.length * 16 ≤ 140737488351232):=
 (Codec.slice Tryz.underlying78 (by rw [y219];decide) y219 b219 P.dWh k219).map id (fun _=>rfl) (fun _ h=>h.1)
theorem k284 : Codec Tryz.prog 284 P.cCt (fun _=>True):=
 (Codec.struct Tryz.underlying284 (by kernel_rfl) (by kernel_rfl) (Parts.cons k9 y9 (Parts.cons k2 y2 (Parts.cons k2 y2 Parts.nil)))).map (fun x=>⟨x.1,x.2.1,x.2.2.1⟩) (fun _=>rfl) (fun _ _=>trivial)
theorem k80 : Codec Tryz.prog 80 (fun l : List P.Cnt=>[P.aCt l]) (fun l=>l.length * 32 ≤ 140737488351232):=
 (Codec.slice Tryz.underlying80 (by rw [y284];decide) y284 b284 P.dCt k284).map id (fun _=>rfl) (fun _ h=>h.1)
theorem k79 : Codec Tryz.prog 79 (fun x : Int × Int=>[iv x.1,iv x.2]) (fun _=>True):=
 (Codec.array Tryz.underlying79 y2 (by kernel_rfl) (by kernel_rfl) (Parts.cons k2 y2 (Parts.cons k2 y2 Parts.nil))).map (fun x=>(x.1,x.2.1)) (fun _=>rfl) (fun _ _=>trivial)
structure ORu (r : P.Rul) : Prop where
 rd : r.rd.length * 16 ≤ 140737488351232
 wh : r.wh.length * 16 ≤ 140737488351232
 cn : r.cn.length * 32 ≤ 140737488351232
theorem k82 : Codec Tryz.prog 82 P.cRu ORu:=
 (Codec.struct Tryz.underlying82 (by kernel_rfl) (by kernel_rfl) (Parts.cons k9 y9 (Parts.cons k77 y77 (Parts.cons k78 y78 (Parts.cons k79 y79 (Parts.cons k3 y3 (Parts.cons k79 y79 (Parts.cons k4 y4 (Parts.cons k80 y80 (Parts.cons k2 y2 Parts.nil)))))))))).map
  (fun x=>⟨x.1,x.2.1,x.2.2.1,x.2.2.2.1.1,x.2.2.2.1.2,x.2.2.2.2.1,x.2.2.2.2.2.1.1,x.2.2.2.2.2.1.2,x.2.2.2.2.2.2.1,x.2.2.2.2.2.2.2.1,x.2.2.2.2.2.2.2.2.1⟩) (fun _=>rfl) (fun _ h=>⟨h.2.1,h.2.2.1,h.2.2.2.2.2.2.2.1⟩)
theorem k74 : Codec Tryz.prog 74 (fun l : List P.Rul=>[P.aRu l]) (fun l=>l.length * 144 ≤ 140737488351232 ∧ ∀ r ∈ l,ORu r):=
 (Codec.slice Tryz.underlying74 (by rw [y82];decide) y82 b82 P.dRu k82).map id (fun _=>rfl) (fun _ h=>⟨h.1,h.2.2⟩)
structure OAu (a : P.Aut) : Prop where
 n : a.ru.length * 144 ≤ 140737488351232
 r : ∀ r ∈ a.ru,ORu r
theorem k76 : Codec Tryz.prog 76 P.cAu OAu:=
 (Codec.struct Tryz.underlying76 (by kernel_rfl) (by kernel_rfl) (Parts.cons k9 y9 (Parts.cons k2 y2 (Parts.cons k2 y2 (Parts.cons k74 y74 Parts.nil))))).map
  (fun x=>⟨x.1,x.2.1,x.2.2.1,x.2.2.2.1⟩) (fun _=>rfl) (fun _ h=>⟨h.2.2.2.1.1,h.2.2.2.1.2⟩)
theorem k23 : Codec Tryz.prog 23 (fun l : List P.Aut=>[P.aAu l]) (fun l=>l.length * 56 ≤ 140737488351232 ∧ ∀ a ∈ l,OAu a):=
 (Codec.slice Tryz.underlying23 (by rw [y76];decide) y76 b76 P.dAu k76).map id (fun _=>rfl) (fun _ h=>⟨h.1,h.2.2⟩)
theorem k66 : Codec Tryz.prog 66 P.cPs (fun _=>True):=
 (Codec.struct Tryz.underlying66 (by kernel_rfl) (by kernel_rfl) (Parts.cons k9 y9 (Parts.cons k9 y9 (Parts.cons k2 y2 Parts.nil)))).map (fun x=>⟨x.1,x.2.1,x.2.2.1⟩) (fun _=>rfl) (fun _ _=>trivial)
theorem k24 : Codec Tryz.prog 24 (fun l : List P.Psg=>[P.aPs l]) (fun l=>l.length * 40 ≤ 140737488351232):=
 (Codec.slice Tryz.underlying24 (by rw [y66];decide) y66 b66 P.dPs k66).map id (fun _=>rfl) (fun _ h=>h.1)
theorem OAu.gr {a : P.Aut} (h : OAu a) : P.GrA a:=⟨by have:=h.n;omega,fun r hr=>⟨by have:=(h.r r hr).rd;omega,by have:=(h.r r hr).wh;omega,by have:=(h.r r hr).cn;omega⟩⟩
def szOf (x : Int × Int × Int × Int × Int × Int × Unit) : Nat → Int
 |0=>x.1
 |1=>x.2.1
 |2=>x.2.2.1
 |3=>x.2.2.2.1
 |4=>x.2.2.2.2.1
 |_=>x.2.2.2.2.2.1
theorem k27 : Codec Tryz.prog 27 P.c6 (fun _=>True):=
 (Codec.array Tryz.underlying27 y2 (by kernel_rfl) (by kernel_rfl) (Parts.cons k2 y2 (Parts.cons k2 y2 (Parts.cons k2 y2 (Parts.cons k2 y2 (Parts.cons k2 y2 (Parts.cons k2 y2 Parts.nil))))))).map szOf (fun _=>rfl) (fun _ _=>trivial)
theorem k29 : Codec Tryz.prog 29 P.cTr (fun t=>t.ps.length * 40 ≤ 140737488351232):=
 (Codec.struct Tryz.underlying29 (by kernel_rfl) (by kernel_rfl) (Parts.cons k27 y27 (Parts.cons k24 y24 Parts.nil))).map (fun x=>⟨x.1,x.2.1⟩) (fun _=>rfl) (fun _ h=>h.2.1)
end Go.Proofs.YtolnclkcokckeaaGreat
