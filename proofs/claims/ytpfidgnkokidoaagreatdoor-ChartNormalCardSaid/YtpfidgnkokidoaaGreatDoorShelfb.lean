/- Contracts: lists of cells alike; two rules of the executor. Conditions: none. Contracts: the document's blocks that may be, blocks alike. Conditions: sizes. The library's contracts of the shelf, laid at this dump by the kit's tools. Conditions: each one's own. The library's contracts of the shelf, laid at this dump by the kit's tools. Conditions: each one's own. The library's contracts of the shelf, laid at this dump by the kit's tools. Conditions: each one's own. Contracts: strings.Cut, Split, Join. Conditions: texts that are not too long; the library's variable. The library's contracts of strconv.ParseInt at base 10, 64 bits, laid at this dump by the kit's tools. Conditions: the errors' variables. -/
import Derived.Test.YtpfidgnkokidoaaGreatDoorDa
import Derived.Test.YtpfidgnkokidoaaGreatDoorUp
import Derived.Shelf.LaysM
import Derived.Shelf.Strings.Split
import Derived.Test.YtpfidgnkokidoaaGreatDoorProg
import Derived.Shelf.Strings.Cut
import Derived.Shelf.Lays
import Derived.Shelf.Strings.OnBuilder
import Derived.Shelf.LaysC
import Derived.Shelf.Strconv.ErrVarParseInt
namespace Go.Proofs.YtpfidgnkokidoaaGreatDoor
open Go Go.Ev
set_option maxRecDepth 100000
variable {P:Program} {f:FuncId} {root:Code} {Γ:Ctx} {Q:Out} (a b:List Cell)
theorem J.settle {todo:List PI} {st:ST} {t s:Nat} {want:Bool} {v:SX} (hm:(t,SV.grd s want v)∈st.fr) (hb:lookup st.fr s=some (.x (.c (.pd (.bool want))))) {fr':List (Nat×SV)} (hf:∀ p∈fr',p∈st.fr∨p=(t,.x v))
 (hk:J P f root Γ Q todo { st with fr:=fr' }):J P f root Γ Q todo st:=by
 intro hT V a w r
 have hon:a.tmps.getD s undef = .bool want:=by
  have:=r.slots s _ (dE hb)
  have h2:SX.R V (.c (.pd (.bool want))) (a.tmps.getD s undef):=this
  generalize a.tmps.getD s undef=u at h2 ⊢
  cases h2; rfl
 have hv:dL V a t (.x v):=(r.slots t _ hm).1 hon
 refine hk hT V a w ⟨r.1,r.2,fun t' sv h'=>?_,r.4,r.5⟩
 rcases hf _ h' with h | h
 · exact r.slots _ _ h
 · simp only [ae] at h
   obtain ⟨rfl,rfl⟩:=h; exact hv
def Dd (P:Program) (cfg:Cfg) (root:Code) (p:List Nat) (i:Nat) (st:ST):Option (Option Prop×ST) :=
 match (opsOf (sub root p))[i]? with
 | some o=>match o.guard with
   | none=>qw P cfg o st
   | some _=>none
 | none=>none
theorem J.step {cfg:Cfg} {f:FuncId} {root:Code} {Γ:Ctx} {Q:Out} {st st':ST} (ht:ai P cfg.tab) {p:List Nat} {i:Nat} {k:List PI} {q:Option Prop} (h:Dd P cfg root p i st=some (q,st')) (hq:Holds q) (hk:J P f root Γ Q (.ops p (i+1)::k) st'):J P f root Γ Q (.ops p i::k) st:=by
 unfold Dd at h
 split at h
 · rename_i o ho
   split at h
   · rename_i hg
     intro hT V a w r
     have hi:i<(opsOf (sub root p)).size:=(Array.getElem?_eq_some_iff.1 ho).1
     have hsz:(opsOf (sub root p)).size - i=((opsOf (sub root p)).size - (i+1))+1:=by omega
     simp only [ay,PI.den]
     rw [hsz,cv]
     exact ki ⟨ht,hT⟩ r ho (by simp only [Region.wanted,hg]) h hq fun V' a' w' r'=>hk hT V' a' w' r'
   · cases h
 · cases h
/-! ### lists, alike -/
def dA:List Cell→List Cell→Bool
 | [],[]=>true
 | x::r,y::q=>(x.op==y.op&&(x.a==y.a&&x.name==y.name))&&dA r q
 | _,_=>false
theorem pG:∀ a b:List Cell,a.length≠b.length→dA a b=false
 | [],[],h=>absurd rfl h
 | [],_::_,_=>rfl
 | _::_,[],_=>rfl
 | x::r,y::q,h=>by
   rw [dA,pG r q (fun e=>h (by simp [e])),bA]
abbrev zOs1:List PI:=[.code [1,1,0,1,0,0],.inLoop [1,1,0,1,0,0],.inBlock 0,.code [1,1,1]]
theorem Gd (Γ:Ctx) (hab:a.length=b.length) (ha:a.length≤1000000):∀ (n k:Nat),a.length - k≤n→k≤a.length →
 J Tryz.prog 25 (aH Tryz.f25) Γ (Eq2 (.x (.b (dA (a.drop k) (b.drop k)))) []) zOs1 ({ n:=26,fr:=[(0,.p (.lst .cell a)),(1,.p (.lst .cell b)),(4,.p (.bool false)),(5,.i ((k:Int)))],ck:=[],kn:=[4] }):=by
 intro n
 induction n with
 | zero=>?_
 | succ n ih=>?_
 all_goals
  intro k hn hk
  refine jg bH Tryz.func25 (.ite (decide ((k:Int)<(a.length:Int))) (.need (inRg k a.length) (.need (inRg k b.length) (.ite (!(Cell.op (ETy.get .cell a k)==Cell.op (ETy.get .cell b k)&&(Cell.a (ETy.get .cell a k)==Cell.a (ETy.get .cell b k)&&Cell.name (ETy.get .cell a k)==Cell.name (ETy.get .cell b k)))) (.ret (.p (.bool false)) []) (.stop zOs1 { n:=26,fr:=[(0,.p (.lst .cell a)),(1,.p (.lst .cell b)),(4,.p (.bool false)),(5,.i (IntKind.wrap .i64 ((k:Int)+1)))],ck:=[] })))) (.ret (.p (.bool true)) [])) ?_
  refine ⟨fun hlt=>?_,fun hge=>?_⟩
  · have hk':k<a.length:=by have:=of_decide_eq_true hlt; omega
    have hkb:k<b.length:=by omega
    rw [bY (t:=.cell) (l:=a) hk',bY (t:=.cell) (l:=b) hkb]
    refine ⟨by omega,by omega,?_⟩
    generalize ETy.get .cell a k=x
    generalize ETy.get .cell b k=y
    refine ⟨fun h=>?_,fun h=>?_⟩
    · have h':(x.op==y.op&&(x.a==y.a&&x.name==y.name))=false:=by rw [aC] at h; exact h
      rw [dA,h',cl]; exact ⟨rfl,rfl⟩
    · have h':(x.op==y.op&&(x.a==y.a&&x.name==y.name))=true:=by rw [cG] at h; exact h
      rw [dA,h',bT,dY (by omega)]
      first
      | (exfalso; omega)
      | exact J.kn [4] (ih (k+1) (by omega) (by omega))
  · have hk2:k=a.length:=by have:=of_decide_eq_false hge; omega
    have e:a.drop k=[]:=b9 (by omega)
    have e2:b.drop k=[]:=b9 (by omega)
    rw [e,e2]; exact ⟨rfl,rfl⟩
theorem Gi (ha:a.length≤1000000):ak Tryz.prog 25 [.l .cell a,.l .cell b] [] (.x (.b (dA a b))) []:=by
 refine dg bH Tryz.func25 (.ite ((a.length:Int) != (b.length:Int)) (.ret (.p (.bool false)) []) (.stop zOs1 { n:=26,fr:=[(0,.p (.lst .cell a)),(1,.p (.lst .cell b)),(4,.p (.bool false)),(5,.i 0)],ck:=[],kn:=[4] })) fun Γ=>?_
 refine ⟨fun h=>?_,fun h=>?_⟩
 · rw [pG a b (by
    have:(a.length:Int)≠b.length:=by simpa using h
    omega)]; exact ⟨rfl,rfl⟩
 · have hab:a.length=b.length:=by
    have:(a.length:Int)=b.length:=by simpa using h
    omega
   exact Gd a b Γ hab ha a.length 0 (by omega) (br _)
def vq:Ent:=(25,fun
 | [.c (.pd (.lst .cell a)),.c (.pd (.lst .cell b))],[]=>some (some (a.length≤1000000),.x (.c (.pd (.bool (dA a b)))),[])
 | _,_=>none)
theorem BT:EntOk Tryz.prog vq:=entOk fun vs ck=>by
 unfold vq; dsimp only; split
 · rename_i a b; exact entS fun hp=>Gi a b hp
 · exact entN
end Go.Proofs.YtpfidgnkokidoaaGreatDoor
namespace Go.Proofs.YtpfidgnkokidoaaGreatDoor
open Go Go.Ev
set_option maxRecDepth 100000
/-! ### alike -/
def hZ (x y:Deed):Bool:=x.kind==y.kind&&(x.name==y.name&&dA x.expr y.expr)
def bO:List Deed→List Deed→Bool
 | [],[]=>true
 | x::r,y::q=>hZ x y&&bO r q
 | _,_=>false
theorem lG:∀ a b:List Deed,a.length≠b.length→bO a b=false
 | [],[],h=>absurd rfl h
 | [],_::_,_=>rfl
 | _::_,[],_=>rfl
 | x::r,y::q,h=>by rw [bO,lG r q (fun e=>h (by simp [e])),bA]
def D4:Cfg:=⟨bu,[vq]⟩
theorem Ap:ai Tryz.prog D4.tab:=(ai.cons BT ai.nil)
abbrev zUq1:List PI:=[.code [1,1,0,1,0,0],.inLoop [1,1,0,1,0,0],.inBlock 0,.code [1,1,1]]
theorem LI (a b:List Deed) (Γ:Ctx) (hl:a.length≤maxLen) (hab:a.length=b.length) (ha:∀ d∈a,d.expr.length≤1000000):∀ (n k:Nat),a.length - k≤n→k≤a.length →
 J Tryz.prog 24 (aH Tryz.f24) Γ (Eq2 (.x (.b (bO (a.drop k) (b.drop k)))) []) zUq1 ({ n:=55,fr:=[(0,.p (.lst .deed a)),(1,.p (.lst .deed b)),(4,.p (.bool false)),(5,.i k)],ck:=[],kn:=[4] }):=by
 intro n
 induction n with
 | zero=>?_
 | succ n ih=>?_
 all_goals
  intro k hn hk
  refine jg Ap Tryz.func24 (let x1:=(((24,41,false,iS false (Deed.kind (ETy.get .deed a k) != Deed.kind (ETy.get .deed b k) || !Deed.name (ETy.get .deed a k)==Deed.name (ETy.get .deed b k)) none).2).2); let x2:=(((11,28,false,iS false (Deed.kind (ETy.get .deed a k) != Deed.kind (ETy.get .deed b k)) none).2).2); .ite (decide ((k:Int)<(a.length:Int))) (.need (inRg k a.length) (.need (inRg k b.length) (.need (x2.2→(0:Int)≤(k:Int)∧(k:Int)<(a.length:Int)) (.need (x2.2→(0:Int)≤(k:Int)∧(k:Int)<(b.length:Int)) (.need (x1.2→(0:Int)≤(k:Int)∧(k:Int)<(a.length:Int)) (.need (x1.2→(0:Int)≤(k:Int)∧(k:Int)<(b.length:Int)) (.need (x1.2→(Deed.expr (ETy.get .deed a k)).length≤1000000) (.ite (Deed.kind (ETy.get .deed a k) != Deed.kind (ETy.get .deed b k) || !Deed.name (ETy.get .deed a k)==Deed.name (ETy.get .deed b k) || !dA (Deed.expr (ETy.get .deed a k)) (Deed.expr (ETy.get .deed b k))) (.ret (.p (.bool false)) []) (.stop zUq1 { n:=55,fr:=[(0,.p (.lst .deed a)),(1,.p (.lst .deed b)),(4,.p (.bool false)),(5,.i (IntKind.wrap .i64 ((k:Int)+1)))],ck:=[] }))))))))) (.ret (.p (.bool true)) [])) ?_
  conv=>zeta
  refine ⟨fun hlt=>?_,fun hge=>?_⟩
  · have hk':k<a.length:=by have:=of_decide_eq_true hlt; omega
    have hx:(ETy.get .deed a k).expr.length≤1000000:=ha _ (List.mem_of_getElem? (ETy.getElem?_get (t:=.deed) hk'))
    rw [bY (t:=.deed) (l:=a) hk',bY (t:=.deed) (l:=b) (by omega)]
    refine ⟨by omega,by omega,fun _=>by omega,fun _=>by omega,fun _=>by omega,fun _=>by omega,fun _=>hx,?_⟩
    generalize ETy.get .deed a k=x
    generalize ETy.get .deed b k=y
    have e:hZ x y = !(x.kind != y.kind || !(x.name==y.name) || !dA x.expr y.expr):=by
     simp only [hZ,bne,Bool.not_or,Bool.not_not,dj]
    refine ⟨fun hb=>⟨?_,rfl⟩,fun hb=>?_⟩
    · rw [bO,e,hb]; rfl
    · rw [bO,e,hb,Bool.not_false,bT,dY (gL hk' hl)]
      first
      | (exfalso; omega)
      | exact J.kn [4] (ih (k+1) (by omega) (by omega))
  · rw [b9 (l:=a) (by have:=of_decide_eq_false hge; omega),b9 (l:=b) (by have:=of_decide_eq_false hge; omega)]
    exact ⟨rfl,rfl⟩
theorem MI (a b:List Deed) (ha:∀ d∈a,d.expr.length≤1000000):ak Tryz.prog 24 [.l .deed a,.l .deed b] [] (.x (.b (bO a b))) []:=by
 refine dg Ap Tryz.func24 (.ite ((a.length:Int) != (b.length:Int)) (.ret (.p (.bool false)) []) (.stop zUq1 { n:=55,fr:=[(0,.p (.lst .deed a)),(1,.p (.lst .deed b)),(4,.p (.bool false)),(5,.i 0)],ck:=[],kn:=[4] })) fun Γ=>?_
 refine ⟨fun h=>?_,fun h=>?_⟩
 · rw [lG a b (by
    have:(a.length:Int)≠b.length:=by simpa using h
    omega)]; exact ⟨rfl,rfl⟩
 · have hab:a.length=b.length:=by
    have:(a.length:Int)=b.length:=by simpa using h
    omega
   exact J.len 0 rfl fun hl=>LI a b Γ hl hab ha a.length 0 (by omega) (by omega)
def uL:Ent:=(24,fun
 | [.c (.pd (.lst .deed a)),.c (.pd (.lst .deed b))],[]=>some (some (∀ d∈a,d.expr.length≤1000000),.x (.c (.pd (.bool (bO a b)))),[])
 | _,_=>none)
theorem Gk:EntOk Tryz.prog uL:=entOk fun vs ck=>by
 unfold uL; dsimp only; split
 · rename_i a b; exact entS fun hp=>MI a b hp
 · exact entN
end Go.Proofs.YtpfidgnkokidoaaGreatDoor
namespace Go.Proofs
open Go.Shelf
def Tryz.lays146_ren:Go.Shelf.Ren:=⟨fun | 146=>17 | 221=>47 | 268=>88 | 138=>89 | 143=>90 | 195=>123 | 197=>124 | 218=>125 | 219=>126 | 260=>164 | 217=>165 | 225=>166 | 224=>167 | 267=>168 | 266=>191 | 314=>192 | n=>n,fun | 9=>9 | 31=>22 | 3=>3 | 4=>4 | 0=>0 | 105=>173 | 21=>21 | 5=>5 | 46=>145 | 119=>232 | 139=>235 | 138=>234 | 146=>180 | 51=>179 | n=>n,fun | 1=>0 | 3=>1 | 4=>2 | n=>n⟩
theorem Tryz.lays146:Go.Proofs.Lays.n146 Tryz.prog Tryz.lays146_ren:={
 mixed:=by kernel_rfl
 f138:=Tryz.func89.trans (congrArg some (by kernel_rfl))
 f143:=Tryz.func90.trans (congrArg some (by kernel_rfl))
 f146:=Tryz.func17.trans (congrArg some (by kernel_rfl))
 f195:=Tryz.func123.trans (congrArg some (by kernel_rfl))
 f197:=Tryz.func124.trans (congrArg some (by kernel_rfl))
 f217:=Tryz.func165.trans (congrArg some (by kernel_rfl))
 f218:=Tryz.func125.trans (congrArg some (by kernel_rfl))
 f219:=Tryz.func126.trans (congrArg some (by kernel_rfl))
 f221:=Tryz.func47.trans (congrArg some (by kernel_rfl))
 f224:=Tryz.func167.trans (congrArg some (by kernel_rfl))
 f225:=Tryz.func166.trans (congrArg some (by kernel_rfl))
 f260:=Tryz.func164.trans (congrArg some (by kernel_rfl))
 f266:=Tryz.func191.trans (congrArg some (by kernel_rfl))
 f267:=Tryz.func168.trans (congrArg some (by kernel_rfl))
 f268:=Tryz.func88.trans (congrArg some (by kernel_rfl))
 f314:=Tryz.func192.trans (congrArg some (by kernel_rfl))
 t0:=Tryz.underlying0
 a0:=Tryz.isAgg0
 z0:=Tryz.sizeOf0
 v0:=Tryz.zeroValue0
 t3:=Tryz.underlying3
 a3:=Tryz.isAgg3
 z3:=Tryz.sizeOf3
 v3:=Tryz.zeroValue3
 t4:=Tryz.underlying4
 a4:=Tryz.isAgg4
 z4:=Tryz.sizeOf4
 v4:=Tryz.zeroValue4
 t5:=Tryz.underlying5
 a5:=Tryz.isAgg5
 z5:=Tryz.sizeOf5
 v5:=Tryz.zeroValue5
 t9:=Tryz.underlying9
 a9:=Tryz.isAgg9
 z9:=Tryz.sizeOf9
 v9:=Tryz.zeroValue9
 t21:=Tryz.underlying21
 a21:=Tryz.isAgg21
 z21:=Tryz.sizeOf21
 v21:=Tryz.zeroValue21
 t31:=Tryz.underlying22
 a31:=Tryz.isAgg22
 z31:=Tryz.sizeOf22
 v31:=Tryz.zeroValue22
 t46:=Tryz.underlying145
 a46:=Tryz.isAgg145
 z46:=Tryz.sizeOf145
 v46:=Tryz.zeroValue145
 t51:=Tryz.underlying179
 a51:=Tryz.isAgg179
 z51:=Tryz.sizeOf179
 v51:=Tryz.zeroValue179
 t105:=Tryz.underlying173
 a105:=Tryz.isAgg173
 z105:=Tryz.sizeOf173
 v105:=Tryz.zeroValue173
 t119:=Tryz.underlying232
 a119:=Tryz.isAgg232
 z119:=Tryz.sizeOf232
 t138:=Tryz.underlying234
 a138:=Tryz.isAgg234
 z138:=Tryz.sizeOf234
 v138:=Tryz.zeroValue234
 t139:=Tryz.underlying235
 a139:=Tryz.isAgg235
 z139:=Tryz.sizeOf235
 v139:=Tryz.zeroValue235
 t146:=Tryz.underlying180
 a146:=Tryz.isAgg180
 z146:=Tryz.sizeOf180
 v146:=Tryz.zeroValue180
 g1:=by kernel_rfl
 g3:=by kernel_rfl
 g4:=by kernel_rfl }
open Go.RowKit Go.Lib in
theorem Tryz.strings_Split (s sep:ByteArray) (m:Int) (w:World) (hs:s.size<4294967281) (hm:w.cell? ⟨0,0,none⟩=some (.int .i64 m)) (h1:1≤sep.size) :
 Calls Tryz.prog 17 #[.string s,.string sep] w fun e w' =>
  e = .returned (.slice (some ⟨w.heap.size,0,none⟩) (Lib.countB s sep+1) (Lib.countB s sep+1))∧w'=w.alloc (.cells ((Lib.splitB sep 0 (Lib.countB s sep) s).map Value.string).toArray 9):=Any.strings_Split Tryz.lays146 (by kernel_rfl) s sep m w hs hm h1
end Go.Proofs
namespace Go.Proofs
open Go.Shelf
def Tryz.lays145_ren:Go.Shelf.Ren:=⟨fun | 145=>162 | 220=>188 | 219=>126 | 217=>165 | 225=>166 | 224=>167 | 267=>168 | 266=>191 | 314=>192 | n=>n,fun | 9=>9 | 4=>4 | 59=>203 | 3=>3 | 5=>5 | 46=>145 | 146=>180 | 51=>179 | n=>n,fun | 1=>0 | n=>n⟩
theorem Tryz.lays145:Go.Proofs.Lays.n145 Tryz.prog Tryz.lays145_ren:={
 mixed:=by kernel_rfl
 f145:=Tryz.func162.trans (congrArg some (by kernel_rfl))
 f217:=Tryz.func165.trans (congrArg some (by kernel_rfl))
 f219:=Tryz.func126.trans (congrArg some (by kernel_rfl))
 f220:=Tryz.func188.trans (congrArg some (by kernel_rfl))
 f224:=Tryz.func167.trans (congrArg some (by kernel_rfl))
 f225:=Tryz.func166.trans (congrArg some (by kernel_rfl))
 f266:=Tryz.func191.trans (congrArg some (by kernel_rfl))
 f267:=Tryz.func168.trans (congrArg some (by kernel_rfl))
 f314:=Tryz.func192.trans (congrArg some (by kernel_rfl))
 t3:=Tryz.underlying3
 a3:=Tryz.isAgg3
 z3:=Tryz.sizeOf3
 v3:=Tryz.zeroValue3
 t4:=Tryz.underlying4
 a4:=Tryz.isAgg4
 z4:=Tryz.sizeOf4
 v4:=Tryz.zeroValue4
 t5:=Tryz.underlying5
 a5:=Tryz.isAgg5
 z5:=Tryz.sizeOf5
 v5:=Tryz.zeroValue5
 t9:=Tryz.underlying9
 a9:=Tryz.isAgg9
 z9:=Tryz.sizeOf9
 v9:=Tryz.zeroValue9
 t46:=Tryz.underlying145
 a46:=Tryz.isAgg145
 z46:=Tryz.sizeOf145
 v46:=Tryz.zeroValue145
 t51:=Tryz.underlying179
 a51:=Tryz.isAgg179
 z51:=Tryz.sizeOf179
 v51:=Tryz.zeroValue179
 t59:=Tryz.underlying203
 a59:=Tryz.isAgg203
 z59:=Tryz.sizeOf203
 v59:=Tryz.zeroValue203
 t146:=Tryz.underlying180
 a146:=Tryz.isAgg180
 z146:=Tryz.sizeOf180
 v146:=Tryz.zeroValue180
 g1:=by kernel_rfl }
open Go.RowKit Go.Lib in
theorem Tryz.strings_Cut (s sep:ByteArray) (m:Int) (w:World) (hs:s.size<4294967281) (hm:w.cell? ⟨0,0,none⟩=some (.int .i64 m)) :
 Calls Tryz.prog 162 #[.string s,.string sep] w fun e w'=>e = .returned (.tuple #[.string ⟨(Lib.cut s.data.toList sep.data.toList).1.toArray⟩,.string ⟨(Lib.cut s.data.toList sep.data.toList).2.1.toArray⟩,.bool (Lib.cut s.data.toList sep.data.toList).2.2])∧∃ n,w'=w.drewN n:=Any.strings_Cut Tryz.lays145 s sep m w hs hm
end Go.Proofs
namespace Go.Proofs
open Go.Shelf
def Tryz.lays156_ren:Go.Shelf.Ren:=⟨fun | 156=>102 | 165=>100 | 166=>26 | 169=>30 | 240=>54 | 241=>136 | 276=>96 | 277=>176 | n=>n,fun | 31=>22 | 9=>9 | 3=>3 | 4=>4 | 0=>0 | 20=>20 | 72=>73 | 76=>76 | 70=>70 | 37=>71 | 75=>75 | 127=>103 | 164=>141 | 5=>5 | 80=>81 | n=>n,fun | n=>n⟩
theorem Tryz.lays156:Go.Proofs.Lays.n156 Tryz.prog Tryz.lays156_ren:={
 mixed:=by kernel_rfl
 f156:=Tryz.func102.trans (congrArg some (by kernel_rfl))
 f165:=Tryz.func100.trans (congrArg some (by kernel_rfl))
 f166:=Tryz.func26.trans (congrArg some (by kernel_rfl))
 f169:=Tryz.func30.trans (congrArg some (by kernel_rfl))
 f240:=Tryz.func54.trans (congrArg some (by kernel_rfl))
 f241:=Tryz.func136.trans (congrArg some (by kernel_rfl))
 f276:=Tryz.func96.trans (congrArg some (by kernel_rfl))
 f277:=Tryz.func176.trans (congrArg some (by kernel_rfl))
 t0:=Tryz.underlying0
 a0:=Tryz.isAgg0
 z0:=Tryz.sizeOf0
 v0:=Tryz.zeroValue0
 t3:=Tryz.underlying3
 a3:=Tryz.isAgg3
 z3:=Tryz.sizeOf3
 v3:=Tryz.zeroValue3
 t4:=Tryz.underlying4
 a4:=Tryz.isAgg4
 z4:=Tryz.sizeOf4
 v4:=Tryz.zeroValue4
 t9:=Tryz.underlying9
 a9:=Tryz.isAgg9
 z9:=Tryz.sizeOf9
 v9:=Tryz.zeroValue9
 t20:=Tryz.underlying20
 a20:=Tryz.isAgg20
 z20:=Tryz.sizeOf20
 v20:=Tryz.zeroValue20
 t31:=Tryz.underlying22
 a31:=Tryz.isAgg22
 z31:=Tryz.sizeOf22
 v31:=Tryz.zeroValue22
 t37:=Tryz.underlying71
 a37:=Tryz.isAgg71
 z37:=Tryz.sizeOf71
 v37:=Tryz.zeroValue71
 t70:=Tryz.underlying70
 a70:=Tryz.isAgg70
 z70:=Tryz.sizeOf70
 v70:=Tryz.zeroValue70
 t72:=Tryz.underlying73
 a72:=Tryz.isAgg73
 z72:=Tryz.sizeOf73
 v72:=Tryz.zeroValue73
 t75:=Tryz.underlying75
 a75:=Tryz.isAgg75
 z75:=Tryz.sizeOf75
 v75:=Tryz.zeroValue75
 t76:=Tryz.underlying76
 a76:=Tryz.isAgg76
 z76:=Tryz.sizeOf76
 v76:=Tryz.zeroValue76
 t127:=Tryz.underlying103
 a127:=Tryz.isAgg103
 z127:=Tryz.sizeOf103
 v127:=Tryz.zeroValue103
 t164:=Tryz.underlying141
 a164:=Tryz.isAgg141
 z164:=Tryz.sizeOf141
 v164:=Tryz.zeroValue141 }
theorem Tryz.Builder_Extra_156:Builder.Extra Tryz.prog Tryz.lays156_ren:={
 sizeBuilder:=by kernel_rfl
 liesBuilder:=by kernel_rfl
 t5:=Tryz.underlying5
 a5:=Tryz.isAgg5
 z5:=Tryz.sizeOf5
 v5:=Tryz.zeroValue5
 infoByte:=by kernel_rfl
 cellsByte:=by kernel_rfl
 sizeByte:=by kernel_rfl
 neB5:=by decide }
open Go.RowKit in
theorem Tryz.strings_Join_none (a:Option Addr) (c:Nat) (sep:ByteArray) (w:World) :
 Calls Tryz.prog 102 #[.slice a 0 c,.string sep] w fun e w'=>e = .returned (.string ⟨#[]⟩)∧w'=w:=Any.strings_Join_none Tryz.lays156 Tryz.Builder_Extra_156 a c sep w
open Go.RowKit in
theorem Tryz.strings_Join (bk o c:Nat) (xs:List ByteArray) (sep:ByteArray) (w:World) (hcells:∀ (j:Nat) x,xs[j]?=some x→w.cell? ⟨bk,o+j,none⟩=some (.string x)) (hbk:bk<w.heap.size) (hN:xs.length≤140737488355328) (hcap:xs.length≤c) (hlen:(Lib.join (xs.map (·.data.toList)) sep.data.toList).length≤140737488355328) :
 Calls Tryz.prog 102 #[.slice (some ⟨bk,o,none⟩) xs.length c,.string sep] w fun e w'=>e = .returned (.string ⟨(Lib.join (xs.map (·.data.toList)) sep.data.toList).toArray⟩)∧Below w.heap.size w w':=Any.strings_Join Tryz.lays156 Tryz.Builder_Extra_156 bk o c xs sep w hcells hbk hN hcap hlen
end Go.Proofs
namespace Go.Proofs.YtpfidgnkokidoaaGreatDoor
open Go Go.Ev Go.RowKit
set_option maxRecDepth 100000
variable {V:Vn} (s:Str)
theorem nG {w:World} (hT:lD Tryz.prog V.H) (hi:HIn V.H w):∃ m,w.cell? ⟨0,0,none⟩=some (.int .i64 m):=by
 obtain ⟨g,cs,e,fr,m,h1,h2,h3⟩:=hT.2.2.2 (by kernel_rfl)
 have e1:g=0:=(au ((show Tryz.prog.globalNamed "internal/bytealg.MaxLen"=some 0 by kernel_rfl).symm.trans h1)).symm
 subst e1
 have h4:=hi _ _ h2
 exact ⟨m,by simp only [World.cell?,h4]; exact h3⟩
theorem mj {a b:Str} {vs:List Value} (hv:All2 (SX.R V) [SX.s a,SX.s b] vs):vs=[.string (bs a),.string (bs b)]:=by
 cases hv with
 | cons a1 hv=>cases hv with
   | cons a2 hv =>
     cases hv
     have a1':PR V.H (.str a) _:=a1
     have a2':PR V.H (.str b) _:=a2
     cases a1'; cases a2'
     rfl
theorem Kq (hs:s.length<4294967281):ak Tryz.prog 162 [.s s,.s [61]] [] (.tup [.s (dp s),.s (b7 s),.b (eF s)]) []:=by
 intro w V vs hw hT hv
 rw [mj hv]
 obtain ⟨m,hm⟩:=nG hT hw.imm
 refine (Tryz.strings_Cut (bs s) (bs [61]) m w (by rw [eP]; exact hs) hm).mono fun e w' ⟨he,n,hw'⟩=>?_
 subst he; subst hw'
 refine ⟨_,V,rfl,?_,hw.kept ⟨rfl,rfl,rfl,aw _,fun _ _ _=>rfl⟩⟩
 rw [cE,cE,Ot]
 have key:(if eF s=true then (dp s,b7 s,true) else (s,[],false))=(dp s,b7 s,eF s):=by
  cases h:eF s
  · obtain ⟨h1,h2⟩:=NF s h
    rw [h1,h2]; rfl
  · rfl
 rw [key]
 exact ⟨_,rfl,.cons (PR.str _) (.cons (PR.str _) (.cons (PR.bool _) .nil))⟩
def vD:Ent:=(162,fun
 | [.c (.pd (.str s)),.c (.pd (.str [61]))],[]=>some (some (s.length<4294967281),.tup [.c (.pd (.str (dp s))),.c (.pd (.str (b7 s))),.c (.pd (.bool (eF s)))],[])
 | _,_=>none)
theorem AY:EntOk Tryz.prog vD:=entOk fun vs ck=>by
 unfold vD; dsimp only; split
 · rename_i s; exact entS fun hp=>Kq s hp
 · exact entN
theorem jD:∀ (s cur:Str),(ba cur s).length=s.countP (·==59)+1
 | [],cur=>rfl
 | c::r,cur=>by
   rw [ba,List.countP_cons]
   cases h:c==59
   · rw [cond_false,jD r]; simp
   · rw [cond_true,ah,jD r]; simp
theorem As:(ba [] s).length≤s.length+1:=by
 rw [jD]; have:=List.countP_le_length (p:=(·==(59:UInt8))) (l:=s); omega
theorem tn {H:Mem}:∀ (l:List Str),All2 (PR H) (l.flatMap ETy.str.enc) (l.map fun s=>Value.string (bs s))
 | []=>.nil
 | s::r=>.cons (.str s) (tn r)
theorem E4 (hs:s.length<4294967281):ak Tryz.prog 17 [.s s,.s [59]] [] (.x (.c (.own 0))) [.own 9 .str (ba [] s)]:=by
 intro w V vs hw hT hv
 rw [mj hv]
 obtain ⟨m,hm⟩:=nG hT hw.imm
 have hp:=Cx s
 have hl:=congrArg List.length hp
 rw [bD] at hl
 have hc:Lib.countB (bs s) ⟨#[59]⟩+1=(ba [] s).length:=by
  rw [← hl]; exact (Lib.splitB_all ⟨#[59]⟩ (by decide) 0 _ (bs s) rfl).symm
 refine (Tryz.strings_Split (bs s) (bs [59]) m w (by rw [eP]; exact hs) hm (by decide)).mono fun e w' ⟨he,hw'⟩=>?_
 subst he; subst hw'
 have hcells:(Lib.splitB (bs [59]) 0 (Lib.countB (bs s) (bs [59])) (bs s)).map Value.string=(ba [] s).map fun s=>Value.string (bs s):=by
  rw [← hp,eZ]
  exact fg fun x _=>by simp [lh]
 have hc':Lib.countB (bs s) (bs [59])+1=(ba [] s).length:=hc
 rw [hcells,hc']
 have hlen:=As s
 obtain ⟨V2,hag,_,_,e2,hw2⟩:=hw.regrow (ck:=[]) rfl (br _) none (c:=.own 9 .str (ba [] s)) (v':=.slice (some ⟨w.heap.size,0,none⟩) (ba [] s).length (ba [] s).length) (s':=w.heap.size) (w':=w.alloc (.cells ((ba [] s).map fun s=>Value.string (bs s)).toArray 9)) (row:=none) (by simp) (World.grownBy_alloc w _ none) (fun V' hag hH f1 f2=>by
  have f3:V'.ov 0 = .slice (some ⟨w.heap.size,0,none⟩) (ba [] s).length (ba [] s).length:=f2
  have f4:V'.σ 0=w.heap.size:=f1
  refine ⟨⟨(ba [] s).map fun s=>Value.string (bs s),?_,tn _,fun b hb=>?_⟩,fun b hb=>?_⟩
  · rw [f2]
    have:=World.ownsRow_lit (base:=0) (size:=1) (e:=9) w ((ba [] s).map fun s=>Value.string (bs s)).toArray (ba [] s).length (br _) (by unfold maxLen; omega) (by simp)
    exact this
  · rw [f2] at hb; simp only [Value.ownBlock,aa] at hb; rw [f1,← hb]
  · right; simp only [Chunk.blk] at hb; rw [f2] at hb; simp only [Value.ownBlock,aa] at hb; omega)
 exact ⟨_,V2,rfl,e2.symm,hw2⟩
def uf:Ent:=(17,fun
 | [.c (.pd (.str s)),.c (.pd (.str [59]))],[]=>some (some (s.length<4294967281),.x (.c (.own 0)),[.own 9 .str (ba [] s)])
 | _,_=>none)
theorem Gz:EntOk Tryz.prog uf:=entOk fun vs ck=>by
 unfold uf; dsimp only; split
 · rename_i s; exact entS fun hp=>E4 s hp
 · exact entN
theorem HM (l:List Str) (sep:Str) (hn:l.length≤140737488355328) (hl:(Lib.join l sep).length≤140737488355328):ak Tryz.prog 102 [.l .str l,.s sep] [] (.x (.s (Lib.join l sep))) []:=by
 intro w V vs hw hT hv
 cases hv with
 | cons a1 hv=>cases hv with
   | cons a2 hv =>
     cases hv
     have a1':PR V.H (.lst .str l) _:=a1
     have a2':PR V.H (.str sep) _:=a2
     cases a2'
     cases a1' with
     | emp _ ao cap h =>
       refine (Tryz.strings_Join_none ao cap (bs sep) w).mono fun e w' ⟨he,hw'⟩=>?_
       subst he; subst hw'
       exact ⟨_,V,rfl,PR.str [],hw⟩
     | lst _ _ b off cap cells e fr hb hc hm hs h =>
       have hx:∀ x:Str,(bs x).data.toList=x:=cE
       have hj:Lib.join ((l.map bs).map (·.data.toList)) (bs sep).data.toList=Lib.join l sep:=by
        rw [eZ,hx]; congr 1
        rw [show ((fun x:ByteArray=>x.data.toList)∘bs)=id from funext hx,List.map_id]
       have hH:=hw.imm _ _ hb
       have key:=Tryz.strings_Join b off cap (l.map bs) (bs sep) w (fun j x hj=>by
        rw [List.getElem?_map,av] at hj
        obtain ⟨y,hy,rfl⟩:=hj
        have hlt:j<l.length:=(List.getElem?_eq_some_iff.1 hy).1
        have h1:ETy.size .str=1:=rfl
        rw [h1,Nat.mul_one] at hs
        have hcell:cells[off+j]?=some (cells[off+j]'(by omega)):=Array.getElem?_eq_getElem (by omega)
        have h2:=h j y hy 0 (.str y) rfl _ (by rw [h1,Nat.mul_one,b5]; exact hcell)
        simp only [World.cell?,hH,hcell]
        generalize cells[off+j]'(by omega)=u at h2
        cases h2; rfl) (Array.getElem?_eq_some_iff.1 hH).1 (by rw [bD]; exact hn) (by rw [bD]; exact hc) (by rw [hj]; exact hl)
       rw [bD,hj] at key
       refine key.mono fun e w' ⟨he,hb⟩=>?_
       subst he
       exact ⟨_,V,rfl,PR.str _,hw.kept (jP hb)⟩
def yD:Ent:=(102,fun
 | [.c (.pd (.lst .str l)),.c (.pd (.str sep))],[]=>some (some (l.length≤140737488355328∧(Lib.join l sep).length≤140737488355328),.x (.c (.pd (.str (Lib.join l sep)))),[])
 | _,_=>none)
theorem IU:EntOk Tryz.prog yD:=entOk fun vs ck=>by
 unfold yD; dsimp only; split
 · rename_i l sep; exact entS fun hp=>HM l sep hp.1 hp.2
 · exact entN
end Go.Proofs.YtpfidgnkokidoaaGreatDoor
namespace Go.Proofs
open Go.Shelf
def Tryz.laysC174_ren:Go.Shelf.Ren:=⟨fun | 174=>116 | 247=>151 | 245=>152 | 287=>179 | 279=>180 | 280=>181 | 281=>182 | 282=>183 | 321=>202 | 322=>203 | 316=>204 | 171=>206 | 205=>205 | 243=>215 | 246=>132 | 283=>172 | 284=>173 | 285=>174 | 286=>175 | 129=>198 | 317=>197 | 318=>199 | 319=>200 | 320=>201 | 337=>213 | 338=>214 | n=>n,fun | 9=>9 | 3=>3 | 2=>2 | 75=>75 | 85=>164 | 4=>4 | 167=>222 | 5=>5 | 53=>182 | 175=>223 | 46=>145 | 168=>225 | 37=>71 | 0=>0 | 210=>245 | 21=>21 | 127=>103 | 145=>252 | 143=>250 | 171=>213 | 173=>216 | 212=>240 | 51=>179 | 20=>20 | 213=>241 | 232=>253 | 233=>254 | 80=>81 | n=>n,fun | 15=>4 | 16=>5 | 17=>3 | 18=>6 | 19=>7 | n=>n⟩
theorem Tryz.laysC174:Go.Proofs.LaysC.n174 Tryz.prog Tryz.laysC174_ren:={
 mixed:=by kernel_rfl
 f129:=Tryz.func198.trans (congrArg some (by kernel_rfl))
 f171:=Tryz.func206.trans (congrArg some (by kernel_rfl))
 f174:=Tryz.func116.trans (congrArg some (by kernel_rfl))
 f205:=Tryz.func205.trans (congrArg some (by kernel_rfl))
 f243:=Tryz.func215.trans (congrArg some (by kernel_rfl))
 f245:=Tryz.func152.trans (congrArg some (by kernel_rfl))
 f246:=Tryz.func132.trans (congrArg some (by kernel_rfl))
 f247:=Tryz.func151.trans (congrArg some (by kernel_rfl))
 f279:=Tryz.func180.trans (congrArg some (by kernel_rfl))
 f280:=Tryz.func181.trans (congrArg some (by kernel_rfl))
 f281:=Tryz.func182.trans (congrArg some (by kernel_rfl))
 f282:=Tryz.func183.trans (congrArg some (by kernel_rfl))
 f283:=Tryz.func172.trans (congrArg some (by kernel_rfl))
 f284:=Tryz.func173.trans (congrArg some (by kernel_rfl))
 f285:=Tryz.func174.trans (congrArg some (by kernel_rfl))
 f286:=Tryz.func175.trans (congrArg some (by kernel_rfl))
 f287:=Tryz.func179.trans (congrArg some (by kernel_rfl))
 f316:=Tryz.func204.trans (congrArg some (by kernel_rfl))
 f317:=Tryz.func197.trans (congrArg some (by kernel_rfl))
 f318:=Tryz.func199.trans (congrArg some (by kernel_rfl))
 f319:=Tryz.func200.trans (congrArg some (by kernel_rfl))
 f320:=Tryz.func201.trans (congrArg some (by kernel_rfl))
 f321:=Tryz.func202.trans (congrArg some (by kernel_rfl))
 f322:=Tryz.func203.trans (congrArg some (by kernel_rfl))
 f337:=Tryz.func213.trans (congrArg some (by kernel_rfl))
 f338:=Tryz.func214.trans (congrArg some (by kernel_rfl))
 t0:=Tryz.underlying0
 a0:=Tryz.isAgg0
 z0:=Tryz.sizeOf0
 v0:=Tryz.zeroValue0
 t2:=Tryz.underlying2
 a2:=Tryz.isAgg2
 z2:=Tryz.sizeOf2
 v2:=Tryz.zeroValue2
 t3:=Tryz.underlying3
 a3:=Tryz.isAgg3
 z3:=Tryz.sizeOf3
 v3:=Tryz.zeroValue3
 t4:=Tryz.underlying4
 a4:=Tryz.isAgg4
 z4:=Tryz.sizeOf4
 v4:=Tryz.zeroValue4
 t5:=Tryz.underlying5
 a5:=Tryz.isAgg5
 z5:=Tryz.sizeOf5
 v5:=Tryz.zeroValue5
 t9:=Tryz.underlying9
 a9:=Tryz.isAgg9
 z9:=Tryz.sizeOf9
 v9:=Tryz.zeroValue9
 t20:=Tryz.underlying20
 a20:=Tryz.isAgg20
 z20:=Tryz.sizeOf20
 v20:=Tryz.zeroValue20
 t21:=Tryz.underlying21
 a21:=Tryz.isAgg21
 z21:=Tryz.sizeOf21
 v21:=Tryz.zeroValue21
 t37:=Tryz.underlying71
 a37:=Tryz.isAgg71
 z37:=Tryz.sizeOf71
 v37:=Tryz.zeroValue71
 t46:=Tryz.underlying145
 a46:=Tryz.isAgg145
 z46:=Tryz.sizeOf145
 v46:=Tryz.zeroValue145
 t51:=Tryz.underlying179
 a51:=Tryz.isAgg179
 z51:=Tryz.sizeOf179
 v51:=Tryz.zeroValue179
 t53:=Tryz.underlying182
 a53:=Tryz.isAgg182
 z53:=Tryz.sizeOf182
 v53:=Tryz.zeroValue182
 t75:=Tryz.underlying75
 a75:=Tryz.isAgg75
 z75:=Tryz.sizeOf75
 v75:=Tryz.zeroValue75
 t85:=Tryz.underlying164
 a85:=Tryz.isAgg164
 z85:=Tryz.sizeOf164
 v85:=Tryz.zeroValue164
 t127:=Tryz.underlying103
 a127:=Tryz.isAgg103
 z127:=Tryz.sizeOf103
 v127:=Tryz.zeroValue103
 t143:=Tryz.underlying250
 a143:=Tryz.isAgg250
 z143:=Tryz.sizeOf250
 v143:=Tryz.zeroValue250
 t145:=Tryz.underlying252
 a145:=Tryz.isAgg252
 z145:=Tryz.sizeOf252
 v145:=Tryz.zeroValue252
 t167:=Tryz.underlying222
 a167:=Tryz.isAgg222
 z167:=Tryz.sizeOf222
 v167:=Tryz.zeroValue222
 t168:=Tryz.underlying225
 a168:=Tryz.isAgg225
 z168:=Tryz.sizeOf225
 v168:=Tryz.zeroValue225
 t171:=Tryz.underlying213
 a171:=Tryz.isAgg213
 z171:=Tryz.sizeOf213
 v171:=Tryz.zeroValue213
 t173:=Tryz.underlying216
 a173:=Tryz.isAgg216
 z173:=Tryz.sizeOf216
 v173:=Tryz.zeroValue216
 t175:=Tryz.underlying223
 a175:=Tryz.isAgg223
 z175:=Tryz.sizeOf223
 v175:=Tryz.zeroValue223
 t210:=Tryz.underlying245
 a210:=Tryz.isAgg245
 z210:=Tryz.sizeOf245
 v210:=Tryz.zeroValue245
 t212:=Tryz.underlying240
 a212:=Tryz.isAgg240
 z212:=Tryz.sizeOf240
 v212:=Tryz.zeroValue240
 t213:=Tryz.underlying241
 a213:=Tryz.isAgg241
 z213:=Tryz.sizeOf241
 t232:=Tryz.underlying253
 a232:=Tryz.isAgg253
 z232:=Tryz.sizeOf253
 v232:=Tryz.zeroValue253
 t233:=Tryz.underlying254
 a233:=Tryz.isAgg254
 z233:=Tryz.sizeOf254
 v233:=Tryz.zeroValue254
 g15:=by kernel_rfl
 g16:=by kernel_rfl
 g17:=by kernel_rfl
 g18:=by kernel_rfl
 g19:=by kernel_rfl
 t80:=Tryz.underlying81
 a80:=Tryz.isAgg81
 z80:=Tryz.sizeOf81
 v80:=Tryz.zeroValue81
 i0:=by kernel_rfl
 i2:=by kernel_rfl
 i3:=by kernel_rfl
 i4:=by kernel_rfl
 i5:=by kernel_rfl
 i9:=by kernel_rfl
 i20:=by kernel_rfl
 i21:=by kernel_rfl
 i37:=by kernel_rfl
 i46:=by kernel_rfl
 i51:=by kernel_rfl
 i53:=by kernel_rfl
 i75:=by kernel_rfl
 i80:=by kernel_rfl
 i85:=by kernel_rfl
 i127:=by kernel_rfl
 i143:=by kernel_rfl
 i145:=by kernel_rfl
 i167:=by kernel_rfl
 i168:=by kernel_rfl
 i171:=by kernel_rfl
 i173:=by kernel_rfl
 i175:=by kernel_rfl
 i210:=by kernel_rfl
 i212:=by kernel_rfl
 i232:=by kernel_rfl
 i233:=by kernel_rfl
 m15:=by kernel_rfl
 m16:=by kernel_rfl
 m17:=by kernel_rfl
 m18:=by kernel_rfl
 m19:=by kernel_rfl
 c0:=by kernel_rfl
 c2:=by kernel_rfl
 c3:=by kernel_rfl
 c4:=by kernel_rfl
 c5:=by kernel_rfl
 c9:=by kernel_rfl
 c20:=by kernel_rfl
 c21:=by kernel_rfl
 c37:=by kernel_rfl
 c46:=by kernel_rfl
 c51:=by kernel_rfl
 c53:=by kernel_rfl
 c75:=by kernel_rfl
 c80:=by kernel_rfl
 c85:=by kernel_rfl
 c127:=by kernel_rfl
 c143:=by kernel_rfl
 c145:=by kernel_rfl
 c167:=by kernel_rfl
 c168:=by kernel_rfl
 c171:=by kernel_rfl
 c173:=by kernel_rfl
 c175:=by kernel_rfl
 c210:=by kernel_rfl
 c212:=by kernel_rfl
 c213:=by kernel_rfl
 c232:=by kernel_rfl
 c233:=by kernel_rfl }
open Go.RowKit in
theorem Tryz.strconv_ParseInt_10_at64_ok (s:ByteArray) (hmax:s.size≤9223372036854775806) (v:Int) (h:Lib.parseIntB 64 s.data.toList = .ok v) (w:World) :
 Calls Tryz.prog 116 #[.string s,.int .i64 10,.int .i64 64] w fun e w'=>e = .returned (.tuple #[.int .i64 v,.nilIface])∧(w'=w∨∃ t,w'=Lib.bytesWorld w 5 t):=Any.strconv_ParseInt_10_at64_ok Tryz.laysC174 s hmax v h w
open Go.RowKit in
theorem Tryz.strconv_ParseInt_10_at64_syntax_var (s:ByteArray) (hlim:s.size≤281474976710656) (h:Lib.parseIntB 64 s.data.toList = .syntax) (tp:TypeId) (p:Value) (w:World) (hvar:w.var? Tryz.prog "strconv.ErrSyntax"=some #[.iface tp p]) :
 Calls Tryz.prog 116 #[.string s,.int .i64 10,.int .i64 64] w fun e w'=>∃ N,e = .returned (.tuple #[.int .i64 (0),.iface 225 (.pointer (some ⟨N,0,none⟩))])∧w.heap.size≤N∧w'.heap[N]?=some (.cells #[.string ⟨#[80,97,114,115,101,73,110,116]⟩,.string s,.iface tp p] 245 (0,0))∧Below w.heap.size w w':=Any.strconv_ParseInt_10_at64_syntax_var Tryz.laysC174 s hlim h tp p w hvar
open Go.RowKit in
theorem Tryz.strconv_ParseInt_10_at64_range_var (s:ByteArray) (hlim:s.size≤281474976710656) (h:Lib.parseIntB 64 s.data.toList = .range) (tp:TypeId) (p:Value) (w:World) (hvar:w.var? Tryz.prog "strconv.ErrRange"=some #[.iface tp p]) :
 Calls Tryz.prog 116 #[.string s,.int .i64 10,.int .i64 64] w fun e w'=>∃ N,e = .returned (.tuple #[.int .i64 (Lib.intSat 64 s.data.toList),.iface 225 (.pointer (some ⟨N,0,none⟩))])∧w.heap.size≤N∧w'.heap[N]?=some (.cells #[.string ⟨#[80,97,114,115,101,73,110,116]⟩,.string s,.iface tp p] 245 (0,0))∧Below w.heap.size w w':=Any.strconv_ParseInt_10_at64_range_var Tryz.laysC174 s hlim h tp p w hvar
end Go.Proofs
