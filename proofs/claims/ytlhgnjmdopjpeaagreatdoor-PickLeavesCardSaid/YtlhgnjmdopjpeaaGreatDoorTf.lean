/- Contracts: trees of states: parents, what is within, domains. Conditions: sizes. Contracts: actions that may be. Conditions: none. Contracts: lists of cells alike; two rules of the executor. Conditions: none. Contracts: the document's blocks that may be, blocks alike. Conditions: sizes. Contracts: valid: small functions. Conditions: sizes. -/
import Derived.Test.YtlhgnjmdopjpeaaGreatDoorTd
import Derived.Test.YtlhgnjmdopjpeaaGreatDoorXb
import Derived.Test.YtlhgnjmdopjpeaaGreatDoorVb
import Derived.Test.YtlhgnjmdopjpeaaGreatDoorKb
namespace Go.Proofs.YtlhgnjmdopjpeaaGreatDoor
open Go Go.Ev
set_option maxRecDepth 100000
variable(l:List Ev.Stat)(i j:Int)
def cr:Bool:=decide (0≤i)&&decide (i<(l.length:Int))&&cm l
def j4(l:List Ev.Stat)(d:Int):Nat→Int
 |0=>-1
 |k+1=>if(ETy.get .stat l k).depth<d then(k:Int)else j4 l d k
def upM(i:Nat):Int:=j4 l (ETy.get .stat l i).depth i
def c7:Int:=if cr l i=true then upM l i.toNat else -1
def iN:Bool:=cr l i&&cr l j&&decide (j>i)&&decide (j<((endM l i.toNat:Nat):Int))
def iP(l:List Ev.Stat)(j:Int):Nat→Int→Int
 |0,_=>-1
 |n+1,k=>if k<0 then -1 else if((ETy.get .stat l k.toNat).kind==2&&decide (j>k)&&decide (j<((endM l k.toNat:Nat):Int)))=true then k else iP l j n (upM l k.toNat)
def df:Int:=if(cr l i&&cr l j)=true then iP l j (l.length+1) i else -1
theorem mC(l:List Ev.Stat)(d:Int):∀k:Nat, -1≤j4 l d k∧j4 l d k<(k:Int)
 |0=>by rw[j4];omega
 | k+1=>by
   have:=mC l d k
   rw[j4];split <;> omega
theorem si{l:List Ev.Stat}{i:Int}(h:cr l i=true):0≤i∧i<(l.length:Int):=by
 unfold cr at h
 simp only[af,decide_eq_true_eq]at h
 exact h.1
theorem Nn(h:0≤i∧i<(l.length:Int)∧l.length≤maxLen):ag Tryz.prog 74 [.l .stat l,.i i] [] (.x (.i (endM l i.toNat:Nat))) []:=by
 obtain⟨k,rfl⟩:=aF h.1
 rw[ai]
 exact xY l k (by omega) h.2.2
def uL:Ent:=(74,fun
 |[.c (.pd (.lst .stat l)),.c (.pd (.int .i64 i))],[]=>some (some (0≤i∧i<(l.length:Int)∧l.length≤maxLen),.x (.c (.pd (.int .i64 (endM l i.toNat:Nat)))),[])
 |_,_=>none)
theorem Bk:EntOk Tryz.prog uL:=entOk fun vs ck=>by
 unfold uL;dsimp only;split
 ·rename_i l i;exact entS fun hp=>Nn l i hp
 ·exact entN
def NW:Cfg:=⟨aX,[oz]⟩
theorem KQ:ah Tryz.prog NW.tab:=(ah.cons uz ah.nil)
theorem JZ(hl:l.length≤maxLen):ag Tryz.prog 73 [.l .stat l,.i i] [] (.x (.b (cr l i))) []:=by
 refine dg KQ Tryz.func73 (.need ((decide (i≥(0:Int))&&decide (i<(l.length:Int)))=true→l.length≤maxLen) (.ret (.p (.bool (decide (i≥(0:Int))&&decide (i<(l.length:Int))&&cm l))) [])) fun Γ=>?_
 exact⟨fun _=>hl,rfl,rfl⟩
def rV:Ent:=(73,fun
 |[.c (.pd (.lst .stat l)),.c (.pd (.int .i64 i))],[]=>some (some (l.length≤maxLen),.x (.c (.pd (.bool (cr l i)))),[])
 |_,_=>none)
theorem td:EntOk Tryz.prog rV:=entOk fun vs ck=>by
 unfold rV;dsimp only;split
 ·rename_i l i;exact entS fun hp=>JZ l i hp
 ·exact entN
abbrev zTe1:List PI:=[.code [1,0,1,0,0],.inLoop [1,0,1,0,0],.inBlock 0,.code [1,1]]
theorem Qw(i:Nat)(hi:i<l.length)(hl:l.length≤maxLen)(Γ:Ctx):∀j:Nat,j≤i →
 J Tryz.prog 100 (aB Tryz.f100) Γ (Eq2 (.x (.i (j4 l (ETy.get .stat l i).depth j))) []) zTe1 ({n:=24,fr:=[(0,.p (.lst .stat l)),(1,.i i),(4,.i 0),(5,.i (((j:Int) - 1)))],ck:=[]}):=by
 have hm:=aK hi hl
 intro j
 induction j with
 |zero=>?_
 |succ j ih=>?_
 all_goals intro hj
 · refine jg aV Tryz.func100 (.ite false (.need ((0:Int)≤(↑(0:Nat):Int) - 1∧(↑(0:Nat):Int) - 1<(l.length:Int)) (.need (inRg i l.length) (.ite (decide (Stat.depth (ETy.get .stat l 0)<Stat.depth (ETy.get .stat l i))) (.ret (.i ((↑(0:Nat):Int) - 1)) []) (.stop zTe1 {n:=24,fr:=[(0,.p (.lst .stat l)),(1,.i i),(4,.i 0),(5,.i (IntKind.wrap .i64 ((↑(0:Nat):Int) - 1 - (1:Int))))],ck:=[]})))) (.ret (.i (-1:Int)) [])) ?_
   exact⟨fun h=>Bool.noConfusion h,fun _=>⟨rfl,rfl⟩⟩
 · refine jg aV Tryz.func100 (.ite (decide ((↑(j+1):Int) - 1≥(0:Int))) (.need ((0:Int)≤(↑(j+1):Int) - 1∧(↑(j+1):Int) - 1<(l.length:Int)) (.need (inRg i l.length) (.ite (decide (Stat.depth (ETy.get .stat l (((↑(j+1):Int) - 1).toNat))<Stat.depth (ETy.get .stat l i))) (.ret (.i ((↑(j+1):Int) - 1)) []) (.stop zTe1 {n:=24,fr:=[(0,.p (.lst .stat l)),(1,.i i),(4,.i 0),(5,.i (IntKind.wrap .i64 ((↑(j+1):Int) - 1 - (1:Int))))],ck:=[]})))) (.ret (.i (-1:Int)) [])) ?_
   have e:((j+1:Nat):Int) - 1=(j:Int):=by omega
   rw[e,ai]
   refine⟨fun _=>⟨⟨by omega,by omega⟩,⟨by omega,by omega⟩,fun h=>?_,fun h=>?_⟩,fun h=>absurd (of_decide_eq_false h) (by omega)⟩
   · have h':=of_decide_eq_true h
     rw[j4,if_pos h'];exact⟨rfl,rfl⟩
   · have h':=of_decide_eq_false h
     rw[j4,if_neg h',cj (by omega) (by omega)];exact ih (by omega)
theorem Ns(h:0≤i∧i<(l.length:Int)∧l.length≤maxLen):ag Tryz.prog 100 [.l .stat l,.i i] [] (.x (.i (upM l i.toNat))) []:=by
 obtain⟨k,rfl⟩:=aF h.1
 rw[ai]
 have hk:k<l.length:=by omega
 have hm:=aK hk h.2.2
 have key:ag Tryz.prog 100 [.l .stat l,.i (k:Int)] [] (.x (.i (upM l k))) []:=by
  refine dg aV Tryz.func100 (.stop zTe1 {n:=24,fr:=[(0,.p (.lst .stat l)),(1,.i k),(4,.i 0),(5,.i (IntKind.wrap .i64 ((k:Int) - 1)))],ck:=[]}) fun Γ=>?_
  rw[cj (by omega) (by omega)]
  exact Qw l k hk h.2.2 Γ k (ar _)
 exact key
def Fp:Ent:=(100,fun
 |[.c (.pd (.lst .stat l)),.c (.pd (.int .i64 i))],[]=>some (some (0≤i∧i<(l.length:Int)∧l.length≤maxLen),.x (.c (.pd (.int .i64 (upM l i.toNat)))),[])
 |_,_=>none)
theorem O3:EntOk Tryz.prog Fp:=entOk fun vs ck=>by
 unfold Fp;dsimp only;split
 ·rename_i l i;exact entS fun hp=>Ns l i hp
 ·exact entN
def tU:Cfg:=⟨aX,[rV,Fp,uL]⟩
theorem o8:ah Tryz.prog tU.tab:=(ah.cons td (ah.cons O3 (ah.cons Bk ah.nil)))
theorem Cg(hl:l.length≤maxLen):ag Tryz.prog 68 [.l .stat l,.i i] [] (.x (.i (c7 l i))) []:=by
 refine dg o8 Tryz.func68 (.need (l.length≤maxLen) (.ite (!cr l i) (.ret (.i (-1:Int)) []) (.need ((0:Int)≤i∧i<(l.length:Int)∧l.length≤maxLen) (.ret (.i (upM l (Int.toNat i))) [])))) fun Γ=>?_
 refine⟨hl,fun h=>?_,fun h=>?_⟩
 · have h':cr l i=false:=by simpa using h
   unfold c7;rw[if_neg (by rw[h'];decide)];exact⟨rfl,rfl⟩
 · have h':cr l i=true:=by simpa using h
   have:=si h'
   unfold c7;rw[if_pos h'];exact⟨⟨this.1,this.2,hl⟩,rfl,rfl⟩
def mv:Ent:=(68,fun
 |[.c (.pd (.lst .stat l)),.c (.pd (.int .i64 i))],[]=>some (some (l.length≤maxLen),.x (.c (.pd (.int .i64 (c7 l i)))),[])
 |_,_=>none)
theorem pf:EntOk Tryz.prog mv:=entOk fun vs ck=>by
 unfold mv;dsimp only;split
 ·rename_i l i;exact entS fun hp=>Cg l i hp
 ·exact entN
theorem Ch(hl:l.length≤maxLen):ag Tryz.prog 38 [.l .stat l,.i i,.i j] [] (.x (.b (iN l i j))) []:=by
 refine dg o8 Tryz.func38 (.need (l.length≤maxLen) (.need (cr l i=true→l.length≤maxLen) (.need ((cr l i&&cr l j&&decide (j>i))=true→(0:Int)≤i∧i<(l.length:Int)∧l.length≤maxLen) (.ret (.p (.bool (cr l i&&cr l j&&decide (j>i)&&decide (j<(↑(endM l (Int.toNat i)):Int))))) [])))) fun Γ=>?_
 refine⟨hl,fun _=>hl,fun h=>?_,rfl,rfl⟩
 simp only[af]at h
 have:=si h.1.1
 exact⟨this.1,this.2,hl⟩
def oG:Ent:=(38,fun
 |[.c (.pd (.lst .stat l)),.c (.pd (.int .i64 i)),.c (.pd (.int .i64 j))],[]=>some (some (l.length≤maxLen),.x (.c (.pd (.bool (iN l i j)))),[])
 |_,_=>none)
theorem uR:EntOk Tryz.prog oG:=entOk fun vs ck=>by
 unfold oG;dsimp only;split
 ·rename_i l i j;exact entS fun hp=>Ch l i j hp
 ·exact entN
abbrev zTe2:List PI:=[.code [1,1,0,1,0,0],.inLoop [1,1,0,1,0,0],.inBlock 0,.code [1,1,1]]
theorem On(hl:l.length≤maxLen)(Γ:Ctx):∀(n:Nat) (k:Int), -1≤k→k<(l.length:Int)→k+1<(n:Int) →
 J Tryz.prog 58 (aB Tryz.f58) Γ (Eq2 (.x (.i (iP l j n k))) []) zTe2 ({n:=43,fr:=[(0,.p (.lst .stat l)),(2,.i j),(6,.i 0),(7,.i k)],ck:=[]}):=by
 intro n
 induction n with
 |zero=>intro k h1 h2 h3;omega
 | succ n ih =>
   intro k h1 h2 h3
   refine jg o8 Tryz.func58 (.ite (decide (k≥(0:Int))) (.need ((0:Int)≤k∧k<(l.length:Int)) (.need ((Stat.kind (ETy.get .stat l (Int.toNat k))==(2:Int)&&decide (j>k))=true→(0:Int)≤k∧k<(l.length:Int)∧l.length≤maxLen) (.ite (Stat.kind (ETy.get .stat l (Int.toNat k))==(2:Int)&&decide (j>k)&&decide (j<(↑(endM l (Int.toNat k)):Int))) (.ret (.i k) []) (.need ((0:Int)≤k∧k<(l.length:Int)∧l.length≤maxLen) (.stop zTe2 {n:=43,fr:=[(0,.p (.lst .stat l)),(2,.i j),(6,.i 0),(7,.i (upM l (Int.toNat k)))],ck:=[]}))))) (.ret (.i (-1:Int)) [])) ?_
   refine⟨fun h=>?_,fun h=>?_⟩
   · have hk:k≥0:=of_decide_eq_true h
     have hup:=mC l (ETy.get .stat l k.toNat).depth k.toNat
     have hup' : -1≤upM l k.toNat∧upM l k.toNat<k:=by
      have:((k.toNat:Nat):Int)=k:=fv hk
      unfold upM;omega
     refine⟨⟨hk,h2⟩,fun _=>⟨hk,h2,hl⟩,fun hc=>?_,fun hc=>⟨⟨hk,h2,hl⟩,?_⟩⟩
     ·rw[iP,if_neg (by omega),if_pos hc];exact⟨rfl,rfl⟩
     · rw[iP,if_neg (by omega),if_neg (by rw[hc];decide)]
       exact ih (upM l k.toNat) hup'.1 (by omega) (by omega)
   · have hk:¬k≥0:=of_decide_eq_false h
     rw[iP,if_pos (by omega)];exact⟨rfl,rfl⟩
theorem Cd(hl:l.length≤maxLen):ag Tryz.prog 58 [.l .stat l,.i i,.i j] [] (.x (.i (df l i j))) []:=by
 refine dg o8 Tryz.func58 (.need (l.length≤maxLen) (.need ((!cr l i)=false→l.length≤maxLen) (.ite (!cr l i || !cr l j) (.ret (.i (-1:Int)) []) (.stop zTe2 {n:=43,fr:=[(0,.p (.lst .stat l)),(2,.i j),(6,.i 0),(7,.i i)],ck:=[]})))) fun Γ=>?_
 refine⟨hl,fun _=>hl,fun h=>?_,fun h=>?_⟩
 · have h':(cr l i&&cr l j)=false:=by
    cases h1:cr l i <;> cases h2:cr l j <;> simp_all
   unfold df;rw[if_neg (by rw[h'];decide)];exact⟨rfl,rfl⟩
 · have h':(cr l i&&cr l j)=true:=by
    cases h1:cr l i <;> cases h2:cr l j <;> simp_all
   have hi:=si (by simp only[af]at h';exact h'.1)
   unfold df;rw[if_pos h']
   exact On l j hl Γ (l.length+1) i (by omega) hi.2 (by omega)
def ox:Ent:=(58,fun
 |[.c (.pd (.lst .stat l)),.c (.pd (.int .i64 i)),.c (.pd (.int .i64 j))],[]=>some (some (l.length≤maxLen),.x (.c (.pd (.int .i64 (df l i j)))),[])
 |_,_=>none)
theorem uf:EntOk Tryz.prog ox:=entOk fun vs ck=>by
 unfold ox;dsimp only;split
 ·rename_i l i j;exact entS fun hp=>Cd l i j hp
 ·exact entN
variable(l:List Cell){b:Bool}(d:Deed)(Γ:Ctx)
theorem nt(h:(!b)=true):b=false:=by cases b <;> simp_all
theorem nf(h:(!b)=false):b=true:=by cases b <;> simp_all
/-! ### plain -/
def k6:Bool:=l.any fun c=>c.op==6
def q8:Bool:=dD l && !k6 l
def fB:Bool:=bif d.kind==1 then a8 d.name&&q8 d.expr else bif d.kind==2||d.kind==3 then iF d.name&&((d.expr.length:Int)==0)else false
def gE(l:List Deed):Bool:=l.all fB&&(decide ((l.length:Int)>0)&&decide ((l.length:Int)≤8))
def jO(v:Var)(x:Val):Bool:=v.kind==x.kind&&(decide (x.a≥v.lo)&&decide (x.a≤v.hi)&&(x.kind != 3||(decide (x.b≥v.lo)&&decide (x.b≤v.hi))))
/-! ### the program's -/
theorem Jp(c:Cell):ag Tryz.prog 285 [.e .cell c] [] (.x (.b (c.op==6))) []:=by
 refine dg aV Tryz.func285 (.ret (.p (.bool (c.op==(6:Int)))) []) fun Γ=>⟨rfl,rfl⟩
def yN:Ent:=(285,fun
 |[.agg [.pd (.int .i64 a),.pd (.int .i64 b),.pd (.str d)]],[]=>some (none,.x (.c (.pd (.bool (a==6)))),[])
 |_,_=>none)
theorem Li:EntOk Tryz.prog yN:=entOk fun vs ck=>by
 unfold yN;dsimp only;split
 ·rename_i a b d;exact entS fun hp=>Jp ⟨a,b,d⟩
 ·exact entN
def vP:Cfg:=⟨aX,[yN]⟩
theorem tO:ah Tryz.prog vP.tab:=(ah.cons Li ah.nil)
abbrev zUz1:List PI:=[.code [1,0,1,0,0],.inLoop [1,0,1,0,0],.inBlock 0,.code [1,1]]
theorem LP(hl:l.length≤maxLen)  : ∀(n k:Nat),l.length - k≤n→k≤l.length →
 J Tryz.prog 314 (aB Tryz.f314) Γ (Eq2 (.x (.i (ax (fun c:Cell=>c.op==6) (l.drop k) k))) []) zUz1 ({n:=19,fr:=[(0,.p (.lst .cell l)),(1,.x (.c (.fn (.func 285) [] []))),(4,.i 0),(7,.i l.length),(8,.i k)],ck:=[]}):=by
 intro n
 induction n with
 |zero=>?_
 |succ n ih=>?_
 all_goals
  intro k hn hk
  refine jg tO Tryz.func314 (.ite (decide ((k:Int)<(l.length:Int))) (.need (inRg k l.length) (.ite (Cell.op (ETy.get .cell l k)==(6:Int)) (.ret (.i k) []) (.stop zUz1 {n:=19,fr:=[(0,.p (.lst .cell l)),(1,.x (.c (.fn (.func 285) [] []))),(4,.i 0),(7,.i l.length),(8,.i (IntKind.wrap .i64 ((k:Int)+1)))],ck:=[]}))) (.ret (.i (-1:Int)) [])) ?_
  refine⟨fun hlt=>?_,fun hge=>?_⟩
  · have hk':k<l.length:=by have:=of_decide_eq_true hlt;omega
    rw[bK (t:=.cell) (l:=l) hk']
    refine⟨by omega,?_⟩
    generalize ETy.get .cell l k=v
    refine⟨fun hb=>⟨?_,rfl⟩,fun hb=>?_⟩
    ·simp only[ax,hb,cond_true]
    ·simp only[ax,hb,cond_false];(rw[ba (aK hk' hl)];first |(exfalso;omega) |exact ih (k+1) (by omega) (by omega))
  · rw[bZ (l:=l) (by have:=of_decide_eq_false hge;omega)]
    exact⟨rfl,rfl⟩
theorem LQ:ag Tryz.prog 314 [.l .cell (l),SX.c (SC.fn (Fn.func 285) [] [])] [] (.x (.i (ax (fun c:Cell=>c.op==6) l 0))) []:=by
 refine dg tO Tryz.func314 (.stop zUz1 {n:=19,fr:=[(0,.p (.lst .cell l)),(1,.x (.c (.fn (.func 285) [] []))),(4,.i 0),(7,.i l.length),(8,.i 0)],ck:=[]}) fun Γ=>?_
 exact J.len 0 rfl fun hl=>LP l Γ hl l.length 0 (by omega) (by omega)
def EV:Ent:=(314,fun
 |[.c (.pd (.lst .cell l)),.c (.fn (.func 285) [] [])],[]=>some (none,.x (.c (.pd (.int .i64 (ax (fun c:Cell=>c.op==6) l 0)))),[])
 |_,_=>none)
theorem OJ:EntOk Tryz.prog EV:=entOk fun vs ck=>by
 unfold EV;dsimp only;split
 ·rename_i l;exact entS fun hp=>LQ l
 ·exact entN
def HA:Cfg:=⟨aX,[EV]⟩
theorem HB:ah Tryz.prog HA.tab:=(ah.cons OJ ah.nil)
theorem Ky:ag Tryz.prog 284 [.l .cell l,.c (.fn (.func 285) [] [])] [] (.x (.b (k6 l))) []:=by
 refine dg HB Tryz.func284 (.ret (.p (.bool (decide (ax (fun c=>c.op==(6:Int)) l (0:Int)≥0)))) []) fun Γ=>⟨?_,rfl⟩
 rw[iI _ _ _ (by omega)];rfl
def EJ:Ent:=(284,fun
 |[.c (.pd (.lst .cell l)),.c (.fn (.func 285) [] [])],[]=>some (none,.x (.c (.pd (.bool (k6 l)))),[])
 |_,_=>none)
theorem OC:EntOk Tryz.prog EJ:=entOk fun vs ck=>by
 unfold EJ;dsimp only;split
 ·rename_i l;exact entS fun hp=>Ky l
 ·exact entN
def AN:Cfg:=⟨aX,[oy,EJ]⟩
theorem Cq:ah Tryz.prog AN.tab:=(ah.cons qi (ah.cons OC ah.nil))
theorem CQ:ag Tryz.prog 249 [.l .cell l] [] (.x (.b (q8 l))) []:=by
 refine dg Cq Tryz.func249 (.ret (.p (.bool (dD l && !k6 l))) []) fun Γ=>?_
 exact⟨rfl,rfl⟩
def rN:Ent:=(249,fun
 |[.c (.pd (.lst .cell l))],[]=>some (none,.x (.c (.pd (.bool (q8 l)))),[])
 |_,_=>none)
theorem Fb:EntOk Tryz.prog rN:=entOk fun vs ck=>by
 unfold rN;dsimp only;split
 ·rename_i l;exact entS fun hp=>CQ l
 ·exact entN
def Ds:Cfg:=⟨aX,[k8,rN,qf]⟩
theorem Ek:ah Tryz.prog Ds.tab:=(ah.cons jV (ah.cons Fb (ah.cons xo ah.nil)))
theorem H5:ag Tryz.prog 297 [.e .deed d] [] (.x (.b (fB d))) []:=by
 refine dg Ek Tryz.func297 (.ite (d.kind==(1:Int)) (.ret (.p (.bool (a8 d.name&&q8 d.expr))) []) (.ite (d.kind==(2:Int)) (.ret (.p (.bool (iF d.name&&(d.expr.length:Int)==0))) []) (.ite (d.kind==(3:Int)) (.ret (.p (.bool (iF d.name&&(d.expr.length:Int)==0))) []) (.ret (.p (.bool false)) [])))) fun Γ=>?_
 unfold fB
 refine⟨fun h=>?_,fun h1=>⟨fun h=>?_,fun h2=>⟨fun h=>?_,fun h3=>?_⟩⟩⟩
 ·rw[h];exact⟨rfl,rfl⟩
 ·rw[h1,h];exact⟨rfl,rfl⟩
 ·rw[h1,h2,h];exact⟨rfl,rfl⟩
 ·rw[h1,h2,h3];exact⟨rfl,rfl⟩
def yE:Ent:=(297,fun
 |[.agg [.pd (.int .i64 a),.pd (.str b),.pd (.lst .cell d)]],[]=>some (none,.x (.c (.pd (.bool (fB ⟨a,b,d⟩)))),[])
 |_,_=>none)
theorem K8:EntOk Tryz.prog yE:=entOk fun vs ck=>by
 unfold yE;dsimp only;split
 ·rename_i a b d;exact entS fun hp=>H5 ⟨a,b,d⟩
 ·exact entN
def s5:Cfg:=⟨aX,[yE]⟩
theorem su:ah Tryz.prog s5.tab:=(ah.cons K8 ah.nil)
theorem Qc(l:List Deed)(Γ:Ctx)(hl:l.length≤maxLen)  : ∀(n k:Nat),l.length - k≤n→k≤l.length →
 J Tryz.prog 256 (aB Tryz.f256) Γ (Eq2 (.x (.b ((l.drop k).all fB&&(decide ((l.length:Int)>0)&&decide ((l.length:Int)≤8))))) []) zUz1 ({n:=23,fr:=[(0,.p (.lst .deed l)),(2,.p (.bool false)),(5,.p (.lst .deed l)),(6,.i l.length),(7,.i k)],ck:=[],kn:=[2]}):=by
 intro n
 induction n with
 |zero=>?_
 |succ n ih=>?_
 all_goals
  intro k hn hk
  refine jg su Tryz.func256 (.ite (decide ((k:Int)<(l.length:Int))) (.need (inRg k l.length) (.ite (!fB (ETy.get .deed l k)) (.ret (.p (.bool false)) []) (.stop zUz1 {n:=23,fr:=[(0,.p (.lst .deed l)),(2,.p (.bool false)),(5,.p (.lst .deed l)),(6,.i l.length),(7,.i (IntKind.wrap .i64 ((k:Int)+1)))],ck:=[],kn:=[2]}))) (.ret (.p (.bool (decide ((l.length:Int)>0)&&decide ((l.length:Int)≤8)))) [])) ?_
  refine⟨fun hlt=>?_,fun hge=>?_⟩
  · have hk':k<l.length:=by have:=of_decide_eq_true hlt;omega
    rw[bK (t:=.deed) (l:=l) hk']
    refine⟨by omega,?_⟩
    generalize ETy.get .deed l k=v
    rw[eD]
    refine⟨fun hb=>⟨?_,rfl⟩,fun hb=>?_⟩
    · have hb':fB v=false:=nt hb
      rw[hb'];rfl
    · have hb':fB v=true:=nf hb
      rw[hb',a6];(rw[ba (aK hk' hl)];first |(exfalso;omega) |exact ih (k+1) (by omega) (by omega))
  · rw[bZ (l:=l) (by have:=of_decide_eq_false hge;omega)]
    exact⟨rfl,rfl⟩
theorem Qd(l:List Deed):ag Tryz.prog 256 [.l .deed (l)] [] (.x (.b (gE l))) []:=by
 refine dg su Tryz.func256 (.stop zUz1 {n:=23,fr:=[(0,.p (.lst .deed l)),(2,.p (.bool false)),(5,.p (.lst .deed l)),(6,.i l.length),(7,.i 0)],ck:=[],kn:=[2]}) fun Γ=>?_
 exact J.len 0 rfl fun hl=>Qc l Γ hl l.length 0 (by omega) (by omega)
def tX:Ent:=(256,fun
 |[.c (.pd (.lst .deed l))],[]=>some (none,.x (.c (.pd (.bool (gE l)))),[])
 |_,_=>none)
theorem Ia:EntOk Tryz.prog tX:=entOk fun vs ck=>by
 unfold tX;dsimp only;split
 ·rename_i l;exact entS fun hp=>Qd l
 ·exact entN
theorem J.settle{P:Program}{f:FuncId}{root:Code}{Γ:Ctx}{Q:Out}{todo:List PI}{st:ST}{t s:Nat}{want:Bool}{v:SX}(hm:(t,SV.grd s want v)∈st.fr)(hb:lookup st.fr s=some (.x (.c (.pd (.bool want))))){fr':List (Nat×SV)}(hf:∀p∈fr',p∈st.fr∨p=(t,.x v))
 (hk:J P f root Γ Q todo {st with fr:=fr'}):J P f root Γ Q todo st:=by
 intro hT V a w r
 have hon:a.tmps.getD s undef = .bool want:=by
  have:=r.slots s _ (cO hb)
  have h2:SX.R V (.c (.pd (.bool want))) (a.tmps.getD s undef):=this
  generalize a.tmps.getD s undef=u at h2 ⊢
  cases h2;rfl
 have hv:cB V a t (.x v):=(r.slots t _ hm).1 hon
 refine hk hT V a w ⟨r.1,r.2,fun t' sv h'=>?_,r.4,r.5⟩
 rcases hf _ h' with h |h
 ·exact r.slots _ _ h
 · simp only[ae]at h
   obtain⟨rfl,rfl⟩:=h;exact hv
def D0(P:Program)(cfg:Cfg)(root:Code)(p:List Nat)(i:Nat)(st:ST):Option (Option Prop×ST) :=
 match(opsOf (sub root p))[i]? with
 | some o=>match o.guard with
   |none=>qT P cfg o st
   |some _=>none
 |none=>none
theorem J.step{P:Program}{cfg:Cfg}{f:FuncId}{root:Code}{Γ:Ctx}{Q:Out}{st st':ST}(ht:ah P cfg.tab){p:List Nat}{i:Nat}{k:List PI}{q:Option Prop}(h:D0 P cfg root p i st=some (q,st'))(hq:Holds q)(hk:J P f root Γ Q (.ops p (i+1)::k) st'):J P f root Γ Q (.ops p i::k) st:=by
 unfold D0 at h
 split at h
 · rename_i o ho
   split at h
   · rename_i hg
     intro hT V a w r
     have hi:i<(opsOf (sub root p)).size:=(Array.getElem?_eq_some_iff.1 ho).1
     have hsz:(opsOf (sub root p)).size - i=((opsOf (sub root p)).size - (i+1))+1:=by omega
     simp only[aq,PI.den]
     rw[hsz,bI]
     exact kz ⟨ht,hT⟩ r ho (by simp only[Region.wanted,hg]) h hq fun V' a' w' r'=>hk hT V' a' w' r'
   ·cases h
 ·cases h
/-! ### lists, alike -/
abbrev zUr2:List PI:=[.code [1,0,1,0,0],.inLoop [1,0,1,0,0],.inBlock 0,.code [1,1]]
theorem P4(l:List Cell)(Γ:Ctx)(hl:l.length≤maxLen)  : ∀(n k:Nat),l.length - k≤n→k≤l.length →
 J Tryz.prog 204 (aB Tryz.f204) Γ (Eq2 (.x (.b (k6 (l.drop k)))) []) zUr2 ({n:=16,fr:=[(0,.p (.lst .cell l)),(2,.p (.bool false)),(3,.i k)],ck:=[],kn:=[2]}):=by
 intro n
 induction n with
 |zero=>?_
 |succ n ih=>?_
 all_goals
  intro k hn hk
  refine jg aV Tryz.func204 (.ite (decide ((k:Int)<(l.length:Int))) (.need (inRg k l.length) (.ite (Cell.op (ETy.get .cell l k)==(6:Int)) (.ret (.p (.bool true)) []) (.stop zUr2 {n:=16,fr:=[(0,.p (.lst .cell l)),(2,.p (.bool false)),(3,.i (IntKind.wrap .i64 ((k:Int)+1)))],ck:=[],kn:=[2]}))) (.ret (.p (.bool false)) [])) ?_
  refine⟨fun hlt=>?_,fun hge=>?_⟩
  · have hk':k<l.length:=by have:=of_decide_eq_true hlt;omega
    rw[bK (t:=.cell) (l:=l) hk']
    refine⟨by omega,?_⟩
    generalize ETy.get .cell l k=v
    have e:k6 (v::l.drop (k+1))=(v.op==6||k6 (l.drop (k+1))):=cM
    rw[e]
    refine⟨fun hb=>⟨?_,rfl⟩,fun hb=>?_⟩
    · have hb':(v.op==6)=true:=hb
      rw[hb'];rfl
    · have hb':(v.op==6)=false:=hb
      rw[hb',bk];(rw[ba (aK hk' hl)];first |(exfalso;omega) |exact J.kn [2] (ih (k+1) (by omega) (by omega)))
  · rw[bZ (l:=l) (by have:=of_decide_eq_false hge;omega)]
    exact⟨rfl,rfl⟩
theorem P5(l:List Cell):ag Tryz.prog 204 [.l .cell (l)] [] (.x (.b (k6 l))) []:=by
 refine dg aV Tryz.func204 (.stop zUr2 {n:=16,fr:=[(0,.p (.lst .cell l)),(2,.p (.bool false)),(3,.i 0)],ck:=[],kn:=[2]}) fun Γ=>?_
 exact J.len 0 rfl fun hl=>P4 l Γ hl l.length 0 (by omega) (by omega)
def uw:Ent:=(204,fun
 |[.c (.pd (.lst .cell l))],[]=>some (none,.x (.c (.pd (.bool (k6 l)))),[])
 |_,_=>none)
theorem Iq:EntOk Tryz.prog uw:=entOk fun vs ck=>by
 unfold uw;dsimp only;split
 ·rename_i l;exact entS fun hp=>P5 l
 ·exact entN
def Dw:Cfg:=⟨aX,[qk,oC,uw,nv]⟩
theorem Ey:ah Tryz.prog Dw.tab:=(ah.cons oB (ah.cons uD (ah.cons Iq (ah.cons Bf ah.nil))))
theorem JF(d:Deed):ag Tryz.prog 137 [.e .deed d] [] (.x (.b (fB d))) []:=by
 refine dg Ey Tryz.func137 (.ite (d.kind==(1:Int)) (.ret (.p (.bool (a8 d.name&&dD d.expr && !k6 d.expr))) []) (.ret (.p (.bool ((d.kind==(2:Int)||d.kind==(3:Int))&&iF d.name&&(d.expr.length:Int)==0))) [])) fun Γ=>?_
 unfold fB q8
 refine⟨fun h=>?_,fun h=>?_⟩
 ·rw[h,cond_true,←Bool.and_assoc];exact⟨rfl,rfl⟩
 · rw[h,cond_false]
   cases h2:(d.kind==2||d.kind==3)
   ·rw[bq,bq];exact⟨rfl,rfl⟩
   ·rw[a6];exact⟨rfl,rfl⟩
def yO:Ent:=(137,fun
 |[.agg [.pd (.int .i64 a),.pd (.str b),.pd (.lst .cell d)]],[]=>some (none,.x (.c (.pd (.bool (fB ⟨a,b,d⟩)))),[])
 |_,_=>none)
theorem Lj:EntOk Tryz.prog yO:=entOk fun vs ck=>by
 unfold yO;dsimp only;split
 ·rename_i a b d;exact entS fun hp=>JF ⟨a,b,d⟩
 ·exact entN
def p9:Cfg:=⟨aX,[yO]⟩
theorem qa:ah Tryz.prog p9.tab:=(ah.cons Lj ah.nil)
abbrev zUr1:List PI:=[.code [1,1,0,1,0,0],.inLoop [1,1,0,1,0,0],.inBlock 0,.code [1,1,1]]
theorem MU(l:List Deed)(Γ:Ctx)(hl:l.length≤maxLen)  : ∀(n k:Nat),l.length - k≤n→k≤l.length →
 J Tryz.prog 93 (aB Tryz.f93) Γ (Eq2 (.x (.b ((l.drop k).all fB))) []) zUr1 ({n:=24,fr:=[(0,.p (.lst .deed l)),(2,.p (.bool false)),(3,.i k)],ck:=[],kn:=[2]}):=by
 intro n
 induction n with
 |zero=>?_
 |succ n ih=>?_
 all_goals
  intro k hn hk
  refine jg qa Tryz.func93 (.ite (decide ((k:Int)<(l.length:Int))) (.need (inRg k l.length) (.ite (!fB (ETy.get .deed l k)) (.ret (.p (.bool false)) []) (.stop zUr1 {n:=24,fr:=[(0,.p (.lst .deed l)),(2,.p (.bool false)),(3,.i (IntKind.wrap .i64 ((k:Int)+1)))],ck:=[],kn:=[2]}))) (.ret (.p (.bool true)) [])) ?_
  refine⟨fun hlt=>?_,fun hge=>?_⟩
  · have hk':k<l.length:=by have:=of_decide_eq_true hlt;omega
    rw[bK (t:=.deed) (l:=l) hk']
    refine⟨by omega,?_⟩
    generalize ETy.get .deed l k=v
    rw[eD]
    refine⟨fun hb=>⟨?_,rfl⟩,fun hb=>?_⟩
    · have hb':fB v=false:=nt hb
      rw[hb'];rfl
    · have hb':fB v=true:=nf hb
      rw[hb',a6];(rw[ba (aK hk' hl)];first |(exfalso;omega) |exact J.kn [2] (ih (k+1) (by omega) (by omega)))
  · rw[bZ (l:=l) (by have:=of_decide_eq_false hge;omega)]
    exact⟨rfl,rfl⟩
theorem CV(l:List Deed):ag Tryz.prog 93 [.l .deed l] [] (.x (.b (gE l))) []:=by
 refine dg qa Tryz.func93 (.ite (decide ((l.length:Int)<1)||decide ((l.length:Int)>8)) (.ret (.p (.bool false)) []) (.stop zUr1 {n:=24,fr:=[(0,.p (.lst .deed l)),(2,.p (.bool false)),(3,.i 0)],ck:=[],kn:=[2]})) fun Γ=>?_
 refine⟨fun h=>⟨?_,rfl⟩,fun h=>?_⟩
 · have:gE l=false:=by
    unfold gE
    simp only[aM,decide_eq_true_eq]at h
    cases l.all fB
    ·rfl
    · rw[a6,b6]
      rcases h with h |h
      ·left;exact decide_eq_false (by omega)
      ·right;exact decide_eq_false (by omega)
   rw[this]
 · simp only[an,decide_eq_false_iff_not]at h
   have:gE l=(l.drop 0).all fB:=by
    unfold gE
    rw[decide_eq_true (show(l.length:Int)>0 by omega),decide_eq_true (show(l.length:Int)≤8 by omega)];simp
   rw[this]
   exact J.len 0 rfl fun hl=>MU l Γ hl l.length 0 (by omega) (by omega)
def rO:Ent:=(93,fun
 |[.c (.pd (.lst .deed l))],[]=>some (none,.x (.c (.pd (.bool (gE l)))),[])
 |_,_=>none)
theorem Ff:EntOk Tryz.prog rO:=entOk fun vs ck=>by
 unfold rO;dsimp only;split
 ·rename_i l;exact entS fun hp=>CV l
 ·exact entN
theorem GN(k:Int):ag Tryz.prog 142 [.i k] [] (.x (.b (a7 k))) []:=by
 refine dg aV Tryz.func142 (.ret (.p (.bool (k==(5:Int)||k==(6:Int)))) []) fun Γ=>?_
 exact⟨rfl,rfl⟩
def oF:Ent:=(142,fun
 |[.c (.pd (.int .i64 k))],[]=>some (none,.x (.c (.pd (.bool (a7 k)))),[])
 |_,_=>none)
theorem qn:EntOk Tryz.prog oF:=entOk fun vs ck=>by
 unfold oF;dsimp only;split
 ·rename_i k;exact entS fun hp=>GN k
 ·exact entN
variable(l:List Ev.Stat)(b:Bool)(e:Int)(n s:Str)
def b9:Int:=if b=true then 0 else e
def aG:Int:=ax (fun s:Ev.Stat=>s.name==n) l 0
theorem GM:ag Tryz.prog 146 [.b b,.i e] [] (.x (.i (b9 b e))) []:=by
 refine dg aV Tryz.func146 (.ite b (.ret (.i 0) []) (.ret (.i e) [])) fun Γ=>?_
 refine⟨fun h=>?_,fun h=>?_⟩
 ·unfold b9;rw[if_pos h];exact⟨rfl,rfl⟩
 ·unfold b9;rw[if_neg (by rw[h];decide)];exact⟨rfl,rfl⟩
def ma:Ent:=(146,fun
 |[.c (.pd (.bool b)),.c (.pd (.int .i64 e))],[]=>some (none,.x (.c (.pd (.int .i64 (b9 b e)))),[])
 |_,_=>none)
theorem kP:EntOk Tryz.prog ma:=entOk fun vs ck=>by
 unfold ma;dsimp only;split
 ·rename_i b e;exact entS fun hp=>GM b e
 ·exact entN
/-! ### a state's place -/
theorem Mp(s:Ev.Stat)(n:Str):ag Tryz.prog 102 [.e .stat s,.p (.ref .str n 0)] [] (.x (.b (s.name==n))) []:=by
 refine dg aV Tryz.func102 (.ret (.p (.bool (s.name==n))) []) fun Γ=>⟨rfl,rfl⟩
def E9:Ent:=(102,fun
 |[.agg [.pd (.str a),.pd (.int .i64 b),.pd (.int .i64 c),.pd (.str d),.pd (.lst .deed e),.pd (.lst .deed f)],.c (.pd (.ref .str n 0))],[]=>some (none,.x (.c (.pd (.bool (a==n)))),[])
 |_,_=>none)
theorem OU:EntOk Tryz.prog E9:=entOk fun vs ck=>by
 unfold E9;dsimp only;split
 ·rename_i a b c d e f n;exact entS fun hp=>Mp ⟨a,b,c,d,e,f⟩ n
 ·exact entN
def AM:Cfg:=⟨aX,[E9]⟩
theorem xd:ah Tryz.prog AM.tab:=(ah.cons OU ah.nil)
abbrev zTf1:List PI:=[.code [1,0,1,0,0],.inLoop [1,0,1,0,0],.inBlock 0,.code [1,1]]
theorem LU(Γ:Ctx)(hl:l.length≤maxLen)  : ∀(n k:Nat),l.length - k≤n→k≤l.length →
 J Tryz.prog 101 (aB Tryz.f101) Γ (Eq2 (.x (.i (ax (fun v:Ev.Stat=>v.name==s) (l.drop k) k))) []) zTf1 ({n:=19,fr:=[(0,.p (.lst .stat l)),(1,.x (.c (.fn (.func 102) [] [.pd (.ref .str s 0)]))),(4,.i 0),(7,.i l.length),(8,.i k)],ck:=[]}):=by
 intro n
 induction n with
 |zero=>?_
 |succ n ih=>?_
 all_goals
  intro k hn hk
  refine jg xd Tryz.func101 (.ite (decide ((k:Int)<(l.length:Int))) (.need (inRg k l.length) (.ite (Stat.name (ETy.get .stat l k)==s) (.ret (.i k) []) (.stop zTf1 {n:=19,fr:=[(0,.p (.lst .stat l)),(1,.x (.c (.fn (.func 102) [] [.pd (.ref .str s 0)]))),(4,.i 0),(7,.i l.length),(8,.i (IntKind.wrap .i64 ((k:Int)+1)))],ck:=[]}))) (.ret (.i (-1:Int)) [])) ?_
  refine⟨fun hlt=>?_,fun hge=>?_⟩
  · have hk':k<l.length:=by have:=of_decide_eq_true hlt;omega
    rw[bK (t:=.stat) (l:=l) hk']
    refine⟨by omega,?_⟩
    generalize ETy.get .stat l k=v
    refine⟨fun hb=>⟨?_,rfl⟩,fun hb=>?_⟩
    ·simp only[ax,hb,cond_true]
    ·simp only[ax,hb,cond_false];(rw[ba (aK hk' hl)];first |(exfalso;omega) |exact ih (k+1) (by omega) (by omega))
  · rw[bZ (l:=l) (by have:=of_decide_eq_false hge;omega)]
    exact⟨rfl,rfl⟩
theorem LV:ag Tryz.prog 101 [.l .stat (l),SX.c (SC.fn (Fn.func 102) [] [RC.pd (PD.ref ETy.str s 0)])] [] (.x (.i (ax (fun v:Ev.Stat=>v.name==s) l 0))) []:=by
 refine dg xd Tryz.func101 (.stop zTf1 {n:=19,fr:=[(0,.p (.lst .stat l)),(1,.x (.c (.fn (.func 102) [] [.pd (.ref .str s 0)]))),(4,.i 0),(7,.i l.length),(8,.i 0)],ck:=[]}) fun Γ=>?_
 exact J.len 0 rfl fun hl=>LU l s Γ hl l.length 0 (by omega) (by omega)
def EX:Ent:=(101,fun
 |[.c (.pd (.lst .stat l)),.c (.fn (.func 102) [] [.pd (.ref .str s 0)])],[]=>some (none,.x (.c (.pd (.int .i64 (ax (fun v:Ev.Stat=>v.name==s) l 0)))),[])
 |_,_=>none)
theorem OL:EntOk Tryz.prog EX:=entOk fun vs ck=>by
 unfold EX;dsimp only;split
 ·rename_i l s;exact entS fun hp=>LV l s
 ·exact entN
def HG:Cfg:=⟨aX,[EX]⟩
theorem HH:ah Tryz.prog HG.tab:=(ah.cons OL ah.nil)
theorem Gc(c:Chart)(n:Str):ag Tryz.prog 59 [.e .chart c,.s n] [] (.x (.i (aG c.states n))) []:=by
 refine dg HH Tryz.func59 (.ret (.i (ax (fun v=>v.name==n) c.states (0:Int))) []) fun Γ=>?_
 exact⟨rfl,rfl⟩
def mJ:Ent:=(59,fun
 |[.agg [.pd (.str a),.pd (.lst .str b),.pd (.lst .var c),.pd (.lst .stat d),.pd (.lst .tran e)],.c (.pd (.str n))],[]=>some (none,.x (.c (.pd (.int .i64 (aG d n)))),[])
 |_,_=>none)
theorem nr:EntOk Tryz.prog mJ:=entOk fun vs ck=>by
 unfold mJ;dsimp only;split
 ·rename_i a b c d e n;exact entS fun hp=>Gc ⟨a,b,c,d,e⟩ n
 ·exact entN
end Go.Proofs.YtlhgnjmdopjpeaaGreatDoor
