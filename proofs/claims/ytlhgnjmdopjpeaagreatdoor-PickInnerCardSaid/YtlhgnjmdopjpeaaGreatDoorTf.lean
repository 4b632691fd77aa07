/- Contracts: trees of states: parents, what is within, domains. Conditions: sizes. Contracts: actions that may be. Conditions: none. Contracts: lists of cells alike; two rules of the executor. Conditions: none. Contracts: the document's blocks that may be, blocks alike. Conditions: sizes. Contracts: valid: small functions. Conditions: sizes. -/
import Derived.Test.YtlhgnjmdopjpeaaGreatDoorTd
import Derived.Test.YtlhgnjmdopjpeaaGreatDoorXb
import Derived.Test.YtlhgnjmdopjpeaaGreatDoorVb
import Derived.Test.YtlhgnjmdopjpeaaGreatDoorKb
namespace Go.Proofs.YtlhgnjmdopjpeaaGreatDoor
open Go Go.Ev
set_option maxRecDepth 100000
variable(l:List Ev.Stat)(i j:Int)
def cw:Bool:=decide (0≤i)&&decide (i<(l.length:Int))&&cn l
def j9(l:List Ev.Stat)(d:Int):Nat→Int
 |0=>-1
 |k+1=>if(ETy.get .stat l k).depth<d then(k:Int)else j9 l d k
def upM(i:Nat):Int:=j9 l (ETy.get .stat l i).depth i
def c7:Int:=if cw l i=true then upM l i.toNat else -1
def iR:Bool:=cw l i&&cw l j&&decide (j>i)&&decide (j<((endM l i.toNat:Nat):Int))
def iT(l:List Ev.Stat)(j:Int):Nat→Int→Int
 |0,_=>-1
 |n+1,k=>if k<0 then -1 else if((ETy.get .stat l k.toNat).kind==2&&decide (j>k)&&decide (j<((endM l k.toNat:Nat):Int)))=true then k else iT l j n (upM l k.toNat)
def dh:Int:=if(cw l i&&cw l j)=true then iT l j (l.length+1) i else -1
theorem mM(l:List Ev.Stat)(d:Int):∀k:Nat, -1≤j9 l d k∧j9 l d k<(k:Int)
 |0=>by rw[j9];omega
 | k+1=>by
   have:=mM l d k
   rw[j9];split <;> omega
theorem sw{l:List Ev.Stat}{i:Int}(h:cw l i=true):0≤i∧i<(l.length:Int):=by
 unfold cw at h
 simp only[af,decide_eq_true_eq]at h
 exact h.1
theorem N7(h:0≤i∧i<(l.length:Int)∧l.length≤maxLen):ah Tryz.prog 74 [.l .stat l,.i i] [] (.x (.i (endM l i.toNat:Nat))) []:=by
 obtain⟨k,rfl⟩:=aA h.1
 rw[ai]
 exact yB l k (by omega) h.2.2
def vc:Ent:=(74,fun
 |[.c (.pd (.lst .stat l)),.c (.pd (.int .i64 i))],[]=>some (some (0≤i∧i<(l.length:Int)∧l.length≤maxLen),.x (.c (.pd (.int .i64 (endM l i.toNat:Nat)))),[])
 |_,_=>none)
theorem BP:EntOk Tryz.prog vc:=entOk fun vs ck=>by
 unfold vc;dsimp only;split
 ·rename_i l i;exact entS fun hp=>N7 l i hp
 ·exact entN
def OJ:Cfg:=⟨aU,[oG]⟩
theorem Lv:ag Tryz.prog OJ.tab:=(ag.cons uQ ag.nil)
theorem KF(hl:l.length≤maxLen):ah Tryz.prog 73 [.l .stat l,.i i] [] (.x (.b (cw l i))) []:=by
 refine dg Lv Tryz.func73 (.need ((decide (i≥(0:Int))&&decide (i<(l.length:Int)))=true→l.length≤maxLen) (.ret (.p (.bool (decide (i≥(0:Int))&&decide (i<(l.length:Int))&&cn l))) [])) fun Γ=>?_
 exact⟨fun _=>hl,rfl,rfl⟩
def r5:Ent:=(73,fun
 |[.c (.pd (.lst .stat l)),.c (.pd (.int .i64 i))],[]=>some (some (l.length≤maxLen),.x (.c (.pd (.bool (cw l i)))),[])
 |_,_=>none)
theorem tq:EntOk Tryz.prog r5:=entOk fun vs ck=>by
 unfold r5;dsimp only;split
 ·rename_i l i;exact entS fun hp=>KF l i hp
 ·exact entN
abbrev zTe1:List PI:=[.code [1,0,1,0,0],.inLoop [1,0,1,0,0],.inBlock 0,.code [1,1]]
theorem Q6(i:Nat)(hi:i<l.length)(hl:l.length≤maxLen)(Γ:Ctx):∀j:Nat,j≤i →
 J Tryz.prog 100 (ar Tryz.f100) Γ (Eq2 (.x (.i (j9 l (ETy.get .stat l i).depth j))) []) zTe1 ({n:=24,fr:=[(0,.p (.lst .stat l)),(1,.i i),(4,.i 0),(5,.i (((j:Int) - 1)))],ck:=[]}):=by
 have hm:=aG hi hl
 intro j
 induction j with
 |zero=>?_
 |succ j ih=>?_
 all_goals intro hj
 · refine jg aX Tryz.func100 (.ite false (.need ((0:Int)≤(↑(0:Nat):Int) - 1∧(↑(0:Nat):Int) - 1<(l.length:Int)) (.need (inRg i l.length) (.ite (decide (Stat.depth (ETy.get .stat l 0)<Stat.depth (ETy.get .stat l i))) (.ret (.i ((↑(0:Nat):Int) - 1)) []) (.stop zTe1 {n:=24,fr:=[(0,.p (.lst .stat l)),(1,.i i),(4,.i 0),(5,.i (IntKind.wrap .i64 ((↑(0:Nat):Int) - 1 - (1:Int))))],ck:=[]})))) (.ret (.i (-1:Int)) [])) ?_
   exact⟨fun h=>Bool.noConfusion h,fun _=>⟨rfl,rfl⟩⟩
 · refine jg aX Tryz.func100 (.ite (decide ((↑(j+1):Int) - 1≥(0:Int))) (.need ((0:Int)≤(↑(j+1):Int) - 1∧(↑(j+1):Int) - 1<(l.length:Int)) (.need (inRg i l.length) (.ite (decide (Stat.depth (ETy.get .stat l (((↑(j+1):Int) - 1).toNat))<Stat.depth (ETy.get .stat l i))) (.ret (.i ((↑(j+1):Int) - 1)) []) (.stop zTe1 {n:=24,fr:=[(0,.p (.lst .stat l)),(1,.i i),(4,.i 0),(5,.i (IntKind.wrap .i64 ((↑(j+1):Int) - 1 - (1:Int))))],ck:=[]})))) (.ret (.i (-1:Int)) [])) ?_
   have e:((j+1:Nat):Int) - 1=(j:Int):=by omega
   rw[e,ai]
   refine⟨fun _=>⟨⟨by omega,by omega⟩,⟨by omega,by omega⟩,fun h=>?_,fun h=>?_⟩,fun h=>absurd (of_decide_eq_false h) (by omega)⟩
   · have h':=of_decide_eq_true h
     rw[j9,if_pos h'];exact⟨rfl,rfl⟩
   · have h':=of_decide_eq_false h
     rw[j9,if_neg h',cg (by omega) (by omega)];exact ih (by omega)
theorem Od(h:0≤i∧i<(l.length:Int)∧l.length≤maxLen):ah Tryz.prog 100 [.l .stat l,.i i] [] (.x (.i (upM l i.toNat))) []:=by
 obtain⟨k,rfl⟩:=aA h.1
 rw[ai]
 have hk:k<l.length:=by omega
 have hm:=aG hk h.2.2
 have key:ah Tryz.prog 100 [.l .stat l,.i (k:Int)] [] (.x (.i (upM l k))) []:=by
  refine dg aX Tryz.func100 (.stop zTe1 {n:=24,fr:=[(0,.p (.lst .stat l)),(1,.i k),(4,.i 0),(5,.i (IntKind.wrap .i64 ((k:Int) - 1)))],ck:=[]}) fun Γ=>?_
  rw[cg (by omega) (by omega)]
  exact Q6 l k hk h.2.2 Γ k (av _)
 exact key
def Gg:Ent:=(100,fun
 |[.c (.pd (.lst .stat l)),.c (.pd (.int .i64 i))],[]=>some (some (0≤i∧i<(l.length:Int)∧l.length≤maxLen),.x (.c (.pd (.int .i64 (upM l i.toNat)))),[])
 |_,_=>none)
theorem PL:EntOk Tryz.prog Gg:=entOk fun vs ck=>by
 unfold Gg;dsimp only;split
 ·rename_i l i;exact entS fun hp=>Od l i hp
 ·exact entN
def ur:Cfg:=⟨aU,[r5,Gg,vc]⟩
theorem ph:ag Tryz.prog ur.tab:=(ag.cons tq (ag.cons PL (ag.cons BP ag.nil)))
theorem CW(hl:l.length≤maxLen):ah Tryz.prog 68 [.l .stat l,.i i] [] (.x (.i (c7 l i))) []:=by
 refine dg ph Tryz.func68 (.need (l.length≤maxLen) (.ite (!cw l i) (.ret (.i (-1:Int)) []) (.need ((0:Int)≤i∧i<(l.length:Int)∧l.length≤maxLen) (.ret (.i (upM l (Int.toNat i))) [])))) fun Γ=>?_
 refine⟨hl,fun h=>?_,fun h=>?_⟩
 · have h':cw l i=false:=by simpa using h
   unfold c7;rw[if_neg (by rw[h'];decide)];exact⟨rfl,rfl⟩
 · have h':cw l i=true:=by simpa using h
   have:=sw h'
   unfold c7;rw[if_pos h'];exact⟨⟨this.1,this.2,hl⟩,rfl,rfl⟩
def mI:Ent:=(68,fun
 |[.c (.pd (.lst .stat l)),.c (.pd (.int .i64 i))],[]=>some (some (l.length≤maxLen),.x (.c (.pd (.int .i64 (c7 l i)))),[])
 |_,_=>none)
theorem pr:EntOk Tryz.prog mI:=entOk fun vs ck=>by
 unfold mI;dsimp only;split
 ·rename_i l i;exact entS fun hp=>CW l i hp
 ·exact entN
theorem CX(hl:l.length≤maxLen):ah Tryz.prog 38 [.l .stat l,.i i,.i j] [] (.x (.b (iR l i j))) []:=by
 refine dg ph Tryz.func38 (.need (l.length≤maxLen) (.need (cw l i=true→l.length≤maxLen) (.need ((cw l i&&cw l j&&decide (j>i))=true→(0:Int)≤i∧i<(l.length:Int)∧l.length≤maxLen) (.ret (.p (.bool (cw l i&&cw l j&&decide (j>i)&&decide (j<(↑(endM l (Int.toNat i)):Int))))) [])))) fun Γ=>?_
 refine⟨hl,fun _=>hl,fun h=>?_,rfl,rfl⟩
 simp only[af]at h
 have:=sw h.1.1
 exact⟨this.1,this.2,hl⟩
def oP:Ent:=(38,fun
 |[.c (.pd (.lst .stat l)),.c (.pd (.int .i64 i)),.c (.pd (.int .i64 j))],[]=>some (some (l.length≤maxLen),.x (.c (.pd (.bool (iR l i j)))),[])
 |_,_=>none)
theorem vi:EntOk Tryz.prog oP:=entOk fun vs ck=>by
 unfold oP;dsimp only;split
 ·rename_i l i j;exact entS fun hp=>CX l i j hp
 ·exact entN
abbrev zTe2:List PI:=[.code [1,1,0,1,0,0],.inLoop [1,1,0,1,0,0],.inBlock 0,.code [1,1,1]]
theorem Pb(hl:l.length≤maxLen)(Γ:Ctx):∀(n:Nat) (k:Int), -1≤k→k<(l.length:Int)→k+1<(n:Int) →
 J Tryz.prog 58 (ar Tryz.f58) Γ (Eq2 (.x (.i (iT l j n k))) []) zTe2 ({n:=43,fr:=[(0,.p (.lst .stat l)),(2,.i j),(6,.i 0),(7,.i k)],ck:=[]}):=by
 intro n
 induction n with
 |zero=>intro k h1 h2 h3;omega
 | succ n ih =>
   intro k h1 h2 h3
   refine jg ph Tryz.func58 (.ite (decide (k≥(0:Int))) (.need ((0:Int)≤k∧k<(l.length:Int)) (.need ((Stat.kind (ETy.get .stat l (Int.toNat k))==(2:Int)&&decide (j>k))=true→(0:Int)≤k∧k<(l.length:Int)∧l.length≤maxLen) (.ite (Stat.kind (ETy.get .stat l (Int.toNat k))==(2:Int)&&decide (j>k)&&decide (j<(↑(endM l (Int.toNat k)):Int))) (.ret (.i k) []) (.need ((0:Int)≤k∧k<(l.length:Int)∧l.length≤maxLen) (.stop zTe2 {n:=43,fr:=[(0,.p (.lst .stat l)),(2,.i j),(6,.i 0),(7,.i (upM l (Int.toNat k)))],ck:=[]}))))) (.ret (.i (-1:Int)) [])) ?_
   refine⟨fun h=>?_,fun h=>?_⟩
   · have hk:k≥0:=of_decide_eq_true h
     have hup:=mM l (ETy.get .stat l k.toNat).depth k.toNat
     have hup' : -1≤upM l k.toNat∧upM l k.toNat<k:=by
      have:((k.toNat:Nat):Int)=k:=fE hk
      unfold upM;omega
     refine⟨⟨hk,h2⟩,fun _=>⟨hk,h2,hl⟩,fun hc=>?_,fun hc=>⟨⟨hk,h2,hl⟩,?_⟩⟩
     ·rw[iT,if_neg (by omega),if_pos hc];exact⟨rfl,rfl⟩
     · rw[iT,if_neg (by omega),if_neg (by rw[hc];decide)]
       exact ih (upM l k.toNat) hup'.1 (by omega) (by omega)
   · have hk:¬k≥0:=of_decide_eq_false h
     rw[iT,if_pos (by omega)];exact⟨rfl,rfl⟩
theorem CT(hl:l.length≤maxLen):ah Tryz.prog 58 [.l .stat l,.i i,.i j] [] (.x (.i (dh l i j))) []:=by
 refine dg ph Tryz.func58 (.need (l.length≤maxLen) (.need ((!cw l i)=false→l.length≤maxLen) (.ite (!cw l i || !cw l j) (.ret (.i (-1:Int)) []) (.stop zTe2 {n:=43,fr:=[(0,.p (.lst .stat l)),(2,.i j),(6,.i 0),(7,.i i)],ck:=[]})))) fun Γ=>?_
 refine⟨hl,fun _=>hl,fun h=>?_,fun h=>?_⟩
 · have h':(cw l i&&cw l j)=false:=by
    cases h1:cw l i <;> cases h2:cw l j <;> simp_all
   unfold dh;rw[if_neg (by rw[h'];decide)];exact⟨rfl,rfl⟩
 · have h':(cw l i&&cw l j)=true:=by
    cases h1:cw l i <;> cases h2:cw l j <;> simp_all
   have hi:=sw (by simp only[af]at h';exact h'.1)
   unfold dh;rw[if_pos h']
   exact Pb l j hl Γ (l.length+1) i (by omega) hi.2 (by omega)
def oE:Ent:=(58,fun
 |[.c (.pd (.lst .stat l)),.c (.pd (.int .i64 i)),.c (.pd (.int .i64 j))],[]=>some (some (l.length≤maxLen),.x (.c (.pd (.int .i64 (dh l i j)))),[])
 |_,_=>none)
theorem uA:EntOk Tryz.prog oE:=entOk fun vs ck=>by
 unfold oE;dsimp only;split
 ·rename_i l i j;exact entS fun hp=>CT l i j hp
 ·exact entN
variable(l:List Cell){b:Bool}(d:Deed)(Γ:Ctx)
theorem nt(h:(!b)=true):b=false:=by cases b <;> simp_all
theorem nf(h:(!b)=false):b=true:=by cases b <;> simp_all
/-! ### plain -/
def lh:Bool:=l.any fun c=>c.op==6
def rn:Bool:=dH l && !lh l
def fJ:Bool:=bif d.kind==1 then bk d.name&&rn d.expr else bif d.kind==2||d.kind==3 then iL d.name&&((d.expr.length:Int)==0)else false
def gM(l:List Deed):Bool:=l.all fJ&&(decide ((l.length:Int)>0)&&decide ((l.length:Int)≤8))
def jS(v:Var)(x:Val):Bool:=v.kind==x.kind&&(decide (x.a≥v.lo)&&decide (x.a≤v.hi)&&(x.kind != 3||(decide (x.b≥v.lo)&&decide (x.b≤v.hi))))
/-! ### the program's -/
theorem J6(c:Cell):ah Tryz.prog 285 [.e .cell c] [] (.x (.b (c.op==6))) []:=by
 refine dg aX Tryz.func285 (.ret (.p (.bool (c.op==(6:Int)))) []) fun Γ=>⟨rfl,rfl⟩
def Ao:Ent:=(285,fun
 |[.agg [.pd (.int .i64 a),.pd (.int .i64 b),.pd (.str d)]],[]=>some (none,.x (.c (.pd (.bool (a==6)))),[])
 |_,_=>none)
theorem LX:EntOk Tryz.prog Ao:=entOk fun vs ck=>by
 unfold Ao;dsimp only;split
 ·rename_i a b d;exact entS fun hp=>J6 ⟨a,b,d⟩
 ·exact entN
def wh:Cfg:=⟨aU,[Ao]⟩
theorem ui:ag Tryz.prog wh.tab:=(ag.cons LX ag.nil)
abbrev zUz1:List PI:=[.code [1,0,1,0,0],.inLoop [1,0,1,0,0],.inBlock 0,.code [1,1]]
theorem Ms(hl:l.length≤maxLen)  : ∀(n k:Nat),l.length - k≤n→k≤l.length →
 J Tryz.prog 314 (ar Tryz.f314) Γ (Eq2 (.x (.i (ay (fun c:Cell=>c.op==6) (l.drop k) k))) []) zUz1 ({n:=19,fr:=[(0,.p (.lst .cell l)),(1,.x (.c (.fn (.func 285) [] []))),(4,.i 0),(7,.i l.length),(8,.i k)],ck:=[]}):=by
 intro n
 induction n with
 |zero=>?_
 |succ n ih=>?_
 all_goals
  intro k hn hk
  refine jg ui Tryz.func314 (.ite (decide ((k:Int)<(l.length:Int))) (.need (inRg k l.length) (.ite (Cell.op (ETy.get .cell l k)==(6:Int)) (.ret (.i k) []) (.stop zUz1 {n:=19,fr:=[(0,.p (.lst .cell l)),(1,.x (.c (.fn (.func 285) [] []))),(4,.i 0),(7,.i l.length),(8,.i (IntKind.wrap .i64 ((k:Int)+1)))],ck:=[]}))) (.ret (.i (-1:Int)) [])) ?_
  refine⟨fun hlt=>?_,fun hge=>?_⟩
  · have hk':k<l.length:=by have:=of_decide_eq_true hlt;omega
    rw[bx (t:=.cell) (l:=l) hk']
    refine⟨by omega,?_⟩
    generalize ETy.get .cell l k=v
    refine⟨fun hb=>⟨?_,rfl⟩,fun hb=>?_⟩
    ·simp only[ay,hb,cond_true]
    ·simp only[ay,hb,cond_false];(rw[aZ (aG hk' hl)];first |(exfalso;omega) |exact ih (k+1) (by omega) (by omega))
  · rw[bS (l:=l) (by have:=of_decide_eq_false hge;omega)]
    exact⟨rfl,rfl⟩
theorem Mt:ah Tryz.prog 314 [.l .cell (l),SX.c (SC.fn (Fn.func 285) [] [])] [] (.x (.i (ay (fun c:Cell=>c.op==6) l 0))) []:=by
 refine dg ui Tryz.func314 (.stop zUz1 {n:=19,fr:=[(0,.p (.lst .cell l)),(1,.x (.c (.fn (.func 285) [] []))),(4,.i 0),(7,.i l.length),(8,.i 0)],ck:=[]}) fun Γ=>?_
 exact J.len 0 rfl fun hl=>Ms l Γ hl l.length 0 (by omega) (by omega)
def FN:Ent:=(314,fun
 |[.c (.pd (.lst .cell l)),.c (.fn (.func 285) [] [])],[]=>some (none,.x (.c (.pd (.int .i64 (ay (fun c:Cell=>c.op==6) l 0)))),[])
 |_,_=>none)
theorem Ps:EntOk Tryz.prog FN:=entOk fun vs ck=>by
 unfold FN;dsimp only;split
 ·rename_i l;exact entS fun hp=>Mt l
 ·exact entN
def Ir:Cfg:=⟨aU,[FN]⟩
theorem Is:ag Tryz.prog Ir.tab:=(ag.cons Ps ag.nil)
theorem Ld:ah Tryz.prog 284 [.l .cell l,.c (.fn (.func 285) [] [])] [] (.x (.b (lh l))) []:=by
 refine dg Is Tryz.func284 (.ret (.p (.bool (decide (ay (fun c=>c.op==(6:Int)) l (0:Int)≥0)))) []) fun Γ=>⟨?_,rfl⟩
 rw[iO _ _ _ (by omega)];rfl
def FC:Ent:=(284,fun
 |[.c (.pd (.lst .cell l)),.c (.fn (.func 285) [] [])],[]=>some (none,.x (.c (.pd (.bool (lh l)))),[])
 |_,_=>none)
theorem Pm:EntOk Tryz.prog FC:=entOk fun vs ck=>by
 unfold FC;dsimp only;split
 ·rename_i l;exact entS fun hp=>Ld l
 ·exact entN
def Bf:Cfg:=⟨aU,[oF,FC]⟩
theorem C7:ag Tryz.prog Bf.tab:=(ag.cons qp (ag.cons Pm ag.nil))
theorem Dw:ah Tryz.prog 249 [.l .cell l] [] (.x (.b (rn l))) []:=by
 refine dg C7 Tryz.func249 (.ret (.p (.bool (dH l && !lh l))) []) fun Γ=>?_
 exact⟨rfl,rfl⟩
def rS:Ent:=(249,fun
 |[.c (.pd (.lst .cell l))],[]=>some (none,.x (.c (.pd (.bool (rn l)))),[])
 |_,_=>none)
theorem F3:EntOk Tryz.prog rS:=entOk fun vs ck=>by
 unfold rS;dsimp only;split
 ·rename_i l;exact entS fun hp=>Dw l
 ·exact entN
def Ec:Cfg:=⟨aU,[ll,rS,qm]⟩
theorem Fc:ag Tryz.prog Ec.tab:=(ag.cons jZ (ag.cons F3 (ag.cons xN ag.nil)))
theorem IT:ah Tryz.prog 297 [.e .deed d] [] (.x (.b (fJ d))) []:=by
 refine dg Fc Tryz.func297 (.ite (d.kind==(1:Int)) (.ret (.p (.bool (bk d.name&&rn d.expr))) []) (.ite (d.kind==(2:Int)) (.ret (.p (.bool (iL d.name&&(d.expr.length:Int)==0))) []) (.ite (d.kind==(3:Int)) (.ret (.p (.bool (iL d.name&&(d.expr.length:Int)==0))) []) (.ret (.p (.bool false)) [])))) fun Γ=>?_
 unfold fJ
 refine⟨fun h=>?_,fun h1=>⟨fun h=>?_,fun h2=>⟨fun h=>?_,fun h3=>?_⟩⟩⟩
 ·rw[h];exact⟨rfl,rfl⟩
 ·rw[h1,h];exact⟨rfl,rfl⟩
 ·rw[h1,h2,h];exact⟨rfl,rfl⟩
 ·rw[h1,h2,h3];exact⟨rfl,rfl⟩
def Ae:Ent:=(297,fun
 |[.agg [.pd (.int .i64 a),.pd (.str b),.pd (.lst .cell d)]],[]=>some (none,.x (.c (.pd (.bool (fJ ⟨a,b,d⟩)))),[])
 |_,_=>none)
theorem LN:EntOk Tryz.prog Ae:=entOk fun vs ck=>by
 unfold Ae;dsimp only;split
 ·rename_i a b d;exact entS fun hp=>IT ⟨a,b,d⟩
 ·exact entN
def tf:Cfg:=⟨aU,[Ae]⟩
theorem sI:ag Tryz.prog tf.tab:=(ag.cons LN ag.nil)
theorem QN(l:List Deed)(Γ:Ctx)(hl:l.length≤maxLen)  : ∀(n k:Nat),l.length - k≤n→k≤l.length →
 J Tryz.prog 256 (ar Tryz.f256) Γ (Eq2 (.x (.b ((l.drop k).all fJ&&(decide ((l.length:Int)>0)&&decide ((l.length:Int)≤8))))) []) zUz1 ({n:=23,fr:=[(0,.p (.lst .deed l)),(2,.p (.bool false)),(5,.p (.lst .deed l)),(6,.i l.length),(7,.i k)],ck:=[],kn:=[2]}):=by
 intro n
 induction n with
 |zero=>?_
 |succ n ih=>?_
 all_goals
  intro k hn hk
  refine jg sI Tryz.func256 (.ite (decide ((k:Int)<(l.length:Int))) (.need (inRg k l.length) (.ite (!fJ (ETy.get .deed l k)) (.ret (.p (.bool false)) []) (.stop zUz1 {n:=23,fr:=[(0,.p (.lst .deed l)),(2,.p (.bool false)),(5,.p (.lst .deed l)),(6,.i l.length),(7,.i (IntKind.wrap .i64 ((k:Int)+1)))],ck:=[],kn:=[2]}))) (.ret (.p (.bool (decide ((l.length:Int)>0)&&decide ((l.length:Int)≤8)))) [])) ?_
  refine⟨fun hlt=>?_,fun hge=>?_⟩
  · have hk':k<l.length:=by have:=of_decide_eq_true hlt;omega
    rw[bx (t:=.deed) (l:=l) hk']
    refine⟨by omega,?_⟩
    generalize ETy.get .deed l k=v
    rw[eH]
    refine⟨fun hb=>⟨?_,rfl⟩,fun hb=>?_⟩
    · have hb':fJ v=false:=nt hb
      rw[hb'];rfl
    · have hb':fJ v=true:=nf hb
      rw[hb',bb];(rw[aZ (aG hk' hl)];first |(exfalso;omega) |exact ih (k+1) (by omega) (by omega))
  · rw[bS (l:=l) (by have:=of_decide_eq_false hge;omega)]
    exact⟨rfl,rfl⟩
theorem QO(l:List Deed):ah Tryz.prog 256 [.l .deed (l)] [] (.x (.b (gM l))) []:=by
 refine dg sI Tryz.func256 (.stop zUz1 {n:=23,fr:=[(0,.p (.lst .deed l)),(2,.p (.bool false)),(5,.p (.lst .deed l)),(6,.i l.length),(7,.i 0)],ck:=[],kn:=[2]}) fun Γ=>?_
 exact J.len 0 rfl fun hl=>QN l Γ hl l.length 0 (by omega) (by omega)
def uv:Ent:=(256,fun
 |[.c (.pd (.lst .deed l))],[]=>some (none,.x (.c (.pd (.bool (gM l)))),[])
 |_,_=>none)
theorem IY:EntOk Tryz.prog uv:=entOk fun vs ck=>by
 unfold uv;dsimp only;split
 ·rename_i l;exact entS fun hp=>QO l
 ·exact entN
theorem J.settle{P:Program}{f:FuncId}{root:Code}{Γ:Ctx}{Q:Out}{todo:List PI}{st:ST}{t s:Nat}{want:Bool}{v:SX}(hm:(t,SV.grd s want v)∈st.fr)(hb:lookup st.fr s=some (.x (.c (.pd (.bool want))))){fr':List (Nat×SV)}(hf:∀p∈fr',p∈st.fr∨p=(t,.x v))
 (hk:J P f root Γ Q todo {st with fr:=fr'}):J P f root Γ Q todo st:=by
 intro hT V a w r
 have hon:a.tmps.getD s undef = .bool want:=by
  have:=r.slots s _ (cT hb)
  have h2:SX.R V (.c (.pd (.bool want))) (a.tmps.getD s undef):=this
  generalize a.tmps.getD s undef=u at h2 ⊢
  cases h2;rfl
 have hv:cO V a t (.x v):=(r.slots t _ hm).1 hon
 refine hk hT V a w ⟨r.1,r.2,fun t' sv h'=>?_,r.4,r.5⟩
 rcases hf _ h' with h |h
 ·exact r.slots _ _ h
 · simp only[ae]at h
   obtain⟨rfl,rfl⟩:=h;exact hv
def ER(P:Program)(cfg:Cfg)(root:Code)(p:List Nat)(i:Nat)(st:ST):Option (Option Prop×ST) :=
 match(opsOf (sub root p))[i]? with
 | some o=>match o.guard with
   |none=>ra P cfg o st
   |some _=>none
 |none=>none
theorem J.step{P:Program}{cfg:Cfg}{f:FuncId}{root:Code}{Γ:Ctx}{Q:Out}{st st':ST}(ht:ag P cfg.tab){p:List Nat}{i:Nat}{k:List PI}{q:Option Prop}(h:ER P cfg root p i st=some (q,st'))(hq:Holds q)(hk:J P f root Γ Q (.ops p (i+1)::k) st'):J P f root Γ Q (.ops p i::k) st:=by
 unfold ER at h
 split at h
 · rename_i o ho
   split at h
   · rename_i hg
     intro hT V a w r
     have hi:i<(opsOf (sub root p)).size:=(Array.getElem?_eq_some_iff.1 ho).1
     have hsz:(opsOf (sub root p)).size - i=((opsOf (sub root p)).size - (i+1))+1:=by omega
     simp only[aq,PI.den]
     rw[hsz,bG]
     exact kH ⟨ht,hT⟩ r ho (by simp only[Region.wanted,hg]) h hq fun V' a' w' r'=>hk hT V' a' w' r'
   ·cases h
 ·cases h
/-! ### lists, alike -/
abbrev zUr2:List PI:=[.code [1,0,1,0,0],.inLoop [1,0,1,0,0],.inBlock 0,.code [1,1]]
theorem QF(l:List Cell)(Γ:Ctx)(hl:l.length≤maxLen)  : ∀(n k:Nat),l.length - k≤n→k≤l.length →
 J Tryz.prog 204 (ar Tryz.f204) Γ (Eq2 (.x (.b (lh (l.drop k)))) []) zUr2 ({n:=16,fr:=[(0,.p (.lst .cell l)),(2,.p (.bool false)),(3,.i k)],ck:=[],kn:=[2]}):=by
 intro n
 induction n with
 |zero=>?_
 |succ n ih=>?_
 all_goals
  intro k hn hk
  refine jg aX Tryz.func204 (.ite (decide ((k:Int)<(l.length:Int))) (.need (inRg k l.length) (.ite (Cell.op (ETy.get .cell l k)==(6:Int)) (.ret (.p (.bool true)) []) (.stop zUr2 {n:=16,fr:=[(0,.p (.lst .cell l)),(2,.p (.bool false)),(3,.i (IntKind.wrap .i64 ((k:Int)+1)))],ck:=[],kn:=[2]}))) (.ret (.p (.bool false)) [])) ?_
  refine⟨fun hlt=>?_,fun hge=>?_⟩
  · have hk':k<l.length:=by have:=of_decide_eq_true hlt;omega
    rw[bx (t:=.cell) (l:=l) hk']
    refine⟨by omega,?_⟩
    generalize ETy.get .cell l k=v
    have e:lh (v::l.drop (k+1))=(v.op==6||lh (l.drop (k+1))):=cr
    rw[e]
    refine⟨fun hb=>⟨?_,rfl⟩,fun hb=>?_⟩
    · have hb':(v.op==6)=true:=hb
      rw[hb'];rfl
    · have hb':(v.op==6)=false:=hb
      rw[hb',bj];(rw[aZ (aG hk' hl)];first |(exfalso;omega) |exact J.kn [2] (ih (k+1) (by omega) (by omega)))
  · rw[bS (l:=l) (by have:=of_decide_eq_false hge;omega)]
    exact⟨rfl,rfl⟩
theorem QG(l:List Cell):ah Tryz.prog 204 [.l .cell (l)] [] (.x (.b (lh l))) []:=by
 refine dg aX Tryz.func204 (.stop zUr2 {n:=16,fr:=[(0,.p (.lst .cell l)),(2,.p (.bool false)),(3,.i 0)],ck:=[],kn:=[2]}) fun Γ=>?_
 exact J.len 0 rfl fun hl=>QF l Γ hl l.length 0 (by omega) (by omega)
def uN:Ent:=(204,fun
 |[.c (.pd (.lst .cell l))],[]=>some (none,.x (.c (.pd (.bool (lh l)))),[])
 |_,_=>none)
theorem Jb:EntOk Tryz.prog uN:=entOk fun vs ck=>by
 unfold uN;dsimp only;split
 ·rename_i l;exact entS fun hp=>QG l
 ·exact entN
def Eg:Cfg:=⟨aU,[qu,oJ,uN,nJ]⟩
theorem Fq:ag Tryz.prog Eg.tab:=(ag.cons oI (ag.cons uU (ag.cons Jb (ag.cons BK ag.nil))))
theorem Kl(d:Deed):ah Tryz.prog 137 [.e .deed d] [] (.x (.b (fJ d))) []:=by
 refine dg Fq Tryz.func137 (.ite (d.kind==(1:Int)) (.ret (.p (.bool (bk d.name&&dH d.expr && !lh d.expr))) []) (.ret (.p (.bool ((d.kind==(2:Int)||d.kind==(3:Int))&&iL d.name&&(d.expr.length:Int)==0))) [])) fun Γ=>?_
 unfold fJ rn
 refine⟨fun h=>?_,fun h=>?_⟩
 ·rw[h,cond_true,←Bool.and_assoc];exact⟨rfl,rfl⟩
 · rw[h,cond_false]
   cases h2:(d.kind==2||d.kind==3)
   ·rw[br,br];exact⟨rfl,rfl⟩
   ·rw[bb];exact⟨rfl,rfl⟩
def Ap:Ent:=(137,fun
 |[.agg [.pd (.int .i64 a),.pd (.str b),.pd (.lst .cell d)]],[]=>some (none,.x (.c (.pd (.bool (fJ ⟨a,b,d⟩)))),[])
 |_,_=>none)
theorem LY:EntOk Tryz.prog Ap:=entOk fun vs ck=>by
 unfold Ap;dsimp only;split
 ·rename_i a b d;exact entS fun hp=>Kl ⟨a,b,d⟩
 ·exact entN
def qe:Cfg:=⟨aU,[Ap]⟩
theorem qf:ag Tryz.prog qe.tab:=(ag.cons LY ag.nil)
abbrev zUr1:List PI:=[.code [1,1,0,1,0,0],.inLoop [1,1,0,1,0,0],.inBlock 0,.code [1,1,1]]
theorem NG(l:List Deed)(Γ:Ctx)(hl:l.length≤maxLen)  : ∀(n k:Nat),l.length - k≤n→k≤l.length →
 J Tryz.prog 93 (ar Tryz.f93) Γ (Eq2 (.x (.b ((l.drop k).all fJ))) []) zUr1 ({n:=24,fr:=[(0,.p (.lst .deed l)),(2,.p (.bool false)),(3,.i k)],ck:=[],kn:=[2]}):=by
 intro n
 induction n with
 |zero=>?_
 |succ n ih=>?_
 all_goals
  intro k hn hk
  refine jg qf Tryz.func93 (.ite (decide ((k:Int)<(l.length:Int))) (.need (inRg k l.length) (.ite (!fJ (ETy.get .deed l k)) (.ret (.p (.bool false)) []) (.stop zUr1 {n:=24,fr:=[(0,.p (.lst .deed l)),(2,.p (.bool false)),(3,.i (IntKind.wrap .i64 ((k:Int)+1)))],ck:=[],kn:=[2]}))) (.ret (.p (.bool true)) [])) ?_
  refine⟨fun hlt=>?_,fun hge=>?_⟩
  · have hk':k<l.length:=by have:=of_decide_eq_true hlt;omega
    rw[bx (t:=.deed) (l:=l) hk']
    refine⟨by omega,?_⟩
    generalize ETy.get .deed l k=v
    rw[eH]
    refine⟨fun hb=>⟨?_,rfl⟩,fun hb=>?_⟩
    · have hb':fJ v=false:=nt hb
      rw[hb'];rfl
    · have hb':fJ v=true:=nf hb
      rw[hb',bb];(rw[aZ (aG hk' hl)];first |(exfalso;omega) |exact J.kn [2] (ih (k+1) (by omega) (by omega)))
  · rw[bS (l:=l) (by have:=of_decide_eq_false hge;omega)]
    exact⟨rfl,rfl⟩
theorem DB(l:List Deed):ah Tryz.prog 93 [.l .deed l] [] (.x (.b (gM l))) []:=by
 refine dg qf Tryz.func93 (.ite (decide ((l.length:Int)<1)||decide ((l.length:Int)>8)) (.ret (.p (.bool false)) []) (.stop zUr1 {n:=24,fr:=[(0,.p (.lst .deed l)),(2,.p (.bool false)),(3,.i 0)],ck:=[],kn:=[2]})) fun Γ=>?_
 refine⟨fun h=>⟨?_,rfl⟩,fun h=>?_⟩
 · have:gM l=false:=by
    unfold gM
    simp only[aN,decide_eq_true_eq]at h
    cases l.all fJ
    ·rfl
    · rw[bb,bZ]
      rcases h with h |h
      ·left;exact decide_eq_false (by omega)
      ·right;exact decide_eq_false (by omega)
   rw[this]
 · simp only[al,decide_eq_false_iff_not]at h
   have:gM l=(l.drop 0).all fJ:=by
    unfold gM
    rw[decide_eq_true (show(l.length:Int)>0 by omega),decide_eq_true (show(l.length:Int)≤8 by omega)];simp
   rw[this]
   exact J.len 0 rfl fun hl=>NG l Γ hl l.length 0 (by omega) (by omega)
def rU:Ent:=(93,fun
 |[.c (.pd (.lst .deed l))],[]=>some (none,.x (.c (.pd (.bool (gM l)))),[])
 |_,_=>none)
theorem F7:EntOk Tryz.prog rU:=entOk fun vs ck=>by
 unfold rU;dsimp only;split
 ·rename_i l;exact entS fun hp=>DB l
 ·exact entN
theorem HD(k:Int):ah Tryz.prog 142 [.i k] [] (.x (.b (bg k))) []:=by
 refine dg aX Tryz.func142 (.ret (.p (.bool (k==(5:Int)||k==(6:Int)))) []) fun Γ=>?_
 exact⟨rfl,rfl⟩
def oN:Ent:=(142,fun
 |[.c (.pd (.int .i64 k))],[]=>some (none,.x (.c (.pd (.bool (bg k)))),[])
 |_,_=>none)
theorem qy:EntOk Tryz.prog oN:=entOk fun vs ck=>by
 unfold oN;dsimp only;split
 ·rename_i k;exact entS fun hp=>HD k
 ·exact entN
variable(l:List Ev.Stat)(b:Bool)(e:Int)(n s:Str)
def b7:Int:=if b=true then 0 else e
def aF:Int:=ay (fun s:Ev.Stat=>s.name==n) l 0
theorem HC:ah Tryz.prog 146 [.b b,.i e] [] (.x (.i (b7 b e))) []:=by
 refine dg aX Tryz.func146 (.ite b (.ret (.i 0) []) (.ret (.i e) [])) fun Γ=>?_
 refine⟨fun h=>?_,fun h=>?_⟩
 ·unfold b7;rw[if_pos h];exact⟨rfl,rfl⟩
 ·unfold b7;rw[if_neg (by rw[h];decide)];exact⟨rfl,rfl⟩
def mm:Ent:=(146,fun
 |[.c (.pd (.bool b)),.c (.pd (.int .i64 e))],[]=>some (none,.x (.c (.pd (.int .i64 (b7 b e)))),[])
 |_,_=>none)
theorem kY:EntOk Tryz.prog mm:=entOk fun vs ck=>by
 unfold mm;dsimp only;split
 ·rename_i b e;exact entS fun hp=>HC b e
 ·exact entN
/-! ### a state's place -/
theorem M7(s:Ev.Stat)(n:Str):ah Tryz.prog 102 [.e .stat s,.p (.ref .str n 0)] [] (.x (.b (s.name==n))) []:=by
 refine dg aX Tryz.func102 (.ret (.p (.bool (s.name==n))) []) fun Γ=>⟨rfl,rfl⟩
def FZ:Ent:=(102,fun
 |[.agg [.pd (.str a),.pd (.int .i64 b),.pd (.int .i64 c),.pd (.str d),.pd (.lst .deed e),.pd (.lst .deed f)],.c (.pd (.ref .str n 0))],[]=>some (none,.x (.c (.pd (.bool (a==n)))),[])
 |_,_=>none)
theorem PC:EntOk Tryz.prog FZ:=entOk fun vs ck=>by
 unfold FZ;dsimp only;split
 ·rename_i a b c d e f n;exact entS fun hp=>M7 ⟨a,b,c,d,e,f⟩ n
 ·exact entN
def Be:Cfg:=⟨aU,[FZ]⟩
theorem xD:ag Tryz.prog Be.tab:=(ag.cons PC ag.nil)
abbrev zTf1:List PI:=[.code [1,0,1,0,0],.inLoop [1,0,1,0,0],.inBlock 0,.code [1,1]]
theorem Mw(Γ:Ctx)(hl:l.length≤maxLen)  : ∀(n k:Nat),l.length - k≤n→k≤l.length →
 J Tryz.prog 101 (ar Tryz.f101) Γ (Eq2 (.x (.i (ay (fun v:Ev.Stat=>v.name==s) (l.drop k) k))) []) zTf1 ({n:=19,fr:=[(0,.p (.lst .stat l)),(1,.x (.c (.fn (.func 102) [] [.pd (.ref .str s 0)]))),(4,.i 0),(7,.i l.length),(8,.i k)],ck:=[]}):=by
 intro n
 induction n with
 |zero=>?_
 |succ n ih=>?_
 all_goals
  intro k hn hk
  refine jg xD Tryz.func101 (.ite (decide ((k:Int)<(l.length:Int))) (.need (inRg k l.length) (.ite (Stat.name (ETy.get .stat l k)==s) (.ret (.i k) []) (.stop zTf1 {n:=19,fr:=[(0,.p (.lst .stat l)),(1,.x (.c (.fn (.func 102) [] [.pd (.ref .str s 0)]))),(4,.i 0),(7,.i l.length),(8,.i (IntKind.wrap .i64 ((k:Int)+1)))],ck:=[]}))) (.ret (.i (-1:Int)) [])) ?_
  refine⟨fun hlt=>?_,fun hge=>?_⟩
  · have hk':k<l.length:=by have:=of_decide_eq_true hlt;omega
    rw[bx (t:=.stat) (l:=l) hk']
    refine⟨by omega,?_⟩
    generalize ETy.get .stat l k=v
    refine⟨fun hb=>⟨?_,rfl⟩,fun hb=>?_⟩
    ·simp only[ay,hb,cond_true]
    ·simp only[ay,hb,cond_false];(rw[aZ (aG hk' hl)];first |(exfalso;omega) |exact ih (k+1) (by omega) (by omega))
  · rw[bS (l:=l) (by have:=of_decide_eq_false hge;omega)]
    exact⟨rfl,rfl⟩
theorem Mx:ah Tryz.prog 101 [.l .stat (l),SX.c (SC.fn (Fn.func 102) [] [RC.pd (PD.ref ETy.str s 0)])] [] (.x (.i (ay (fun v:Ev.Stat=>v.name==s) l 0))) []:=by
 refine dg xD Tryz.func101 (.stop zTf1 {n:=19,fr:=[(0,.p (.lst .stat l)),(1,.x (.c (.fn (.func 102) [] [.pd (.ref .str s 0)]))),(4,.i 0),(7,.i l.length),(8,.i 0)],ck:=[]}) fun Γ=>?_
 exact J.len 0 rfl fun hl=>Mw l s Γ hl l.length 0 (by omega) (by omega)
def FQ:Ent:=(101,fun
 |[.c (.pd (.lst .stat l)),.c (.fn (.func 102) [] [.pd (.ref .str s 0)])],[]=>some (none,.x (.c (.pd (.int .i64 (ay (fun v:Ev.Stat=>v.name==s) l 0)))),[])
 |_,_=>none)
theorem Pu:EntOk Tryz.prog FQ:=entOk fun vs ck=>by
 unfold FQ;dsimp only;split
 ·rename_i l s;exact entS fun hp=>Mx l s
 ·exact entN
def Iy:Cfg:=⟨aU,[FQ]⟩
theorem Iz:ag Tryz.prog Iy.tab:=(ag.cons Pu ag.nil)
theorem GZ(c:Chart)(n:Str):ah Tryz.prog 59 [.e .chart c,.s n] [] (.x (.i (aF c.states n))) []:=by
 refine dg Iz Tryz.func59 (.ret (.i (ay (fun v=>v.name==n) c.states (0:Int))) []) fun Γ=>?_
 exact⟨rfl,rfl⟩
def mT:Ent:=(59,fun
 |[.agg [.pd (.str a),.pd (.lst .str b),.pd (.lst .var c),.pd (.lst .stat d),.pd (.lst .tran e)],.c (.pd (.str n))],[]=>some (none,.x (.c (.pd (.int .i64 (aF d n)))),[])
 |_,_=>none)
theorem nH:EntOk Tryz.prog mT:=entOk fun vs ck=>by
 unfold mT;dsimp only;split
 ·rename_i a b c d e n;exact entS fun hp=>GZ ⟨a,b,c,d,e⟩ n
 ·exact entN
end Go.Proofs.YtlhgnjmdopjpeaaGreatDoor
