/- Contracts: trees of states: parents, what is within, domains. Conditions: sizes. Contracts: actions that may be. Conditions: none. Contracts: lists of cells alike; two rules of the executor. Conditions: none. Contracts: the document's blocks that may be, blocks alike. Conditions: sizes. -/
import Derived.Test.YtgfifkhbfdacjaaGreatDoorTd
import Derived.Test.YtgfifkhbfdacjaaGreatDoorXb
import Derived.Test.YtgfifkhbfdacjaaGreatDoorVb
import Derived.Test.YtgfifkhbfdacjaaGreatDoorKb
namespace Go.Proofs.YtgfifkhbfdacjaaGreatDoor
open Go Go.Ev
set_option maxRecDepth 100000
variable (l:List Ev.Stat) (i j:Int)
def bR:Bool:=decide (0≤i)&&decide (i<(l.length:Int))&&bZ l
def il (l:List Ev.Stat) (d:Int):Nat→Int
 | 0=>-1
 | k+1=>if (ETy.get .stat l k).depth<d then (k:Int) else il l d k
def upM (i:Nat):Int:=il l (ETy.get .stat l i).depth i
def ba:Int:=if bR l i=true then upM l i.toNat else -1
def gg:Bool:=bR l i&&bR l j&&decide (j>i)&&decide (j<((endM l i.toNat:Nat):Int))
def gr (l:List Ev.Stat) (j:Int):Nat→Int→Int
 | 0,_=>-1
 | n+1,k=>if k<0 then -1 else if ((ETy.get .stat l k.toNat).kind==2&&decide (j>k)&&decide (j<((endM l k.toNat:Nat):Int)))=true then k else gr l j n (upM l k.toNat)
def dt:Int:=if (bR l i&&bR l j)=true then gr l j (l.length+1) i else -1
theorem kC (l:List Ev.Stat) (d:Int):∀ k:Nat, -1≤il l d k∧il l d k<(k:Int)
 | 0=>by rw [il]; omega
 | k+1=>by
   have:=kC l d k
   rw [il]; split <;> omega
theorem o3 {l:List Ev.Stat} {i:Int} (h:bR l i=true):0≤i∧i<(l.length:Int):=by
 unfold bR at h
 simp only [af,decide_eq_true_eq] at h
 exact h.1
theorem G6 (h:0≤i∧i<(l.length:Int)∧l.length≤maxLen):ah Tryz.prog 101 [.l .stat l,.i i] [] (.x (.i (endM l i.toNat:Nat))) []:=by
 obtain ⟨k,rfl⟩:=aD h.1
 rw [ai]
 exact s9 l k (by omega) h.2.2
def rH:Ent:=(101,fun
 | [.c (.pd (.lst .stat l)),.c (.pd (.int .i64 i))],[]=>some (some (0≤i∧i<(l.length:Int)∧l.length≤maxLen),.x (.c (.pd (.int .i64 (endM l i.toNat:Nat)))),[])
 | _,_=>none)
theorem v7:EntOk Tryz.prog rH:=entOk fun vs ck=>by
 unfold rH; dsimp only; split
 · rename_i l i; exact entS fun hp=>G6 l i hp
 · exact entN
def IT:Cfg:=⟨aY,[mn]⟩
theorem GK:ag Tryz.prog IT.tab:=(ag.cons qf ag.nil)
theorem DH (hl:l.length≤maxLen):ah Tryz.prog 99 [.l .stat l,.i i] [] (.x (.b (bR l i))) []:=by
 refine dg GK Tryz.func99 (.need ((decide (i≥(0:Int))&&decide (i<(l.length:Int)))=true→l.length≤maxLen) (.ret (.p (.bool (decide (i≥(0:Int))&&decide (i<(l.length:Int))&&bZ l))) [])) fun Γ=>?_
 exact ⟨fun _=>hl,rfl,rfl⟩
def o8:Ent:=(99,fun
 | [.c (.pd (.lst .stat l)),.c (.pd (.int .i64 i))],[]=>some (some (l.length≤maxLen),.x (.c (.pd (.bool (bR l i)))),[])
 | _,_=>none)
theorem p9:EntOk Tryz.prog o8:=entOk fun vs ck=>by
 unfold o8; dsimp only; split
 · rename_i l i; exact entS fun hp=>DH l i hp
 · exact entN
abbrev zTe1:List PI:=[.code [1,0,1,0,0],.inLoop [1,0,1,0,0],.inBlock 0,.code [1,1]]
theorem KF (i:Nat) (hi:i<l.length) (hl:l.length≤maxLen) (Γ:Ctx):∀ j:Nat,j≤i →
 J Tryz.prog 100 (au Tryz.f100) Γ (Eq2 (.x (.i (il l (ETy.get .stat l i).depth j))) []) zTe1 ({ n:=24,fr:=[(0,.p (.lst .stat l)),(1,.i i),(4,.i 0),(5,.i (((j:Int) - 1)))],ck:=[] }):=by
 have hm:=aE hi hl
 intro j
 induction j with
 | zero=>?_
 | succ j ih=>?_
 all_goals intro hj
 · refine jg aR Tryz.func100 (.ite false (.need ((0:Int)≤(↑(0:Nat):Int) - 1∧(↑(0:Nat):Int) - 1<(l.length:Int)) (.need (inRg i l.length) (.ite (decide (Stat.depth (ETy.get .stat l 0)<Stat.depth (ETy.get .stat l i))) (.ret (.i ((↑(0:Nat):Int) - 1)) []) (.stop zTe1 { n:=24,fr:=[(0,.p (.lst .stat l)),(1,.i i),(4,.i 0),(5,.i (IntKind.wrap .i64 ((↑(0:Nat):Int) - 1 - (1:Int))))],ck:=[] })))) (.ret (.i (-1:Int)) [])) ?_
   exact ⟨fun h=>Bool.noConfusion h,fun _=>⟨rfl,rfl⟩⟩
 · refine jg aR Tryz.func100 (.ite (decide ((↑(j+1):Int) - 1≥(0:Int))) (.need ((0:Int)≤(↑(j+1):Int) - 1∧(↑(j+1):Int) - 1<(l.length:Int)) (.need (inRg i l.length) (.ite (decide (Stat.depth (ETy.get .stat l (((↑(j+1):Int) - 1).toNat))<Stat.depth (ETy.get .stat l i))) (.ret (.i ((↑(j+1):Int) - 1)) []) (.stop zTe1 { n:=24,fr:=[(0,.p (.lst .stat l)),(1,.i i),(4,.i 0),(5,.i (IntKind.wrap .i64 ((↑(j+1):Int) - 1 - (1:Int))))],ck:=[] })))) (.ret (.i (-1:Int)) [])) ?_
   have e:((j+1:Nat):Int) - 1=(j:Int):=by omega
   rw [e,ai]
   refine ⟨fun _=>⟨⟨by omega,by omega⟩,⟨by omega,by omega⟩,fun h=>?_,fun h=>?_⟩,fun h=>absurd (of_decide_eq_false h) (by omega)⟩
   · have h':=of_decide_eq_true h
     rw [il,if_pos h']; exact ⟨rfl,rfl⟩
   · have h':=of_decide_eq_false h
     rw [il,if_neg h',cg (by omega) (by omega)]; exact ih (by omega)
theorem HX (h:0≤i∧i<(l.length:Int)∧l.length≤maxLen):ah Tryz.prog 100 [.l .stat l,.i i] [] (.x (.i (upM l i.toNat))) []:=by
 obtain ⟨k,rfl⟩:=aD h.1
 rw [ai]
 have hk:k<l.length:=by omega
 have hm:=aE hk h.2.2
 have key:ah Tryz.prog 100 [.l .stat l,.i (k:Int)] [] (.x (.i (upM l k))) []:=by
  refine dg aR Tryz.func100 (.stop zTe1 { n:=24,fr:=[(0,.p (.lst .stat l)),(1,.i k),(4,.i 0),(5,.i (IntKind.wrap .i64 ((k:Int) - 1)))],ck:=[] }) fun Γ=>?_
  rw [cg (by omega) (by omega)]
  exact KF l k hk h.2.2 Γ k (aq _)
 exact key
def AL:Ent:=(100,fun
 | [.c (.pd (.lst .stat l)),.c (.pd (.int .i64 i))],[]=>some (some (0≤i∧i<(l.length:Int)∧l.length≤maxLen),.x (.c (.pd (.int .i64 (upM l i.toNat)))),[])
 | _,_=>none)
theorem KD:EntOk Tryz.prog AL:=entOk fun vs ck=>by
 unfold AL; dsimp only; split
 · rename_i l i; exact entS fun hp=>HX l i hp
 · exact entN
def qJ:Cfg:=⟨aY,[o8,AL,rH]⟩
theorem mK:ag Tryz.prog qJ.tab:=(ag.cons p9 (ag.cons KD (ag.cons v7 ag.nil)))
theorem vP (hl:l.length≤maxLen):ah Tryz.prog 47 [.l .stat l,.i i] [] (.x (.i (ba l i))) []:=by
 refine dg mK Tryz.func47 (.need (l.length≤maxLen) (.ite (!bR l i) (.ret (.i (-1:Int)) []) (.need ((0:Int)≤i∧i<(l.length:Int)∧l.length≤maxLen) (.ret (.i (upM l (Int.toNat i))) [])))) fun Γ=>?_
 refine ⟨hl,fun h=>?_,fun h=>?_⟩
 · have h':bR l i=false:=by simpa using h
   unfold ba; rw [if_neg (by rw [h']; decide)]; exact ⟨rfl,rfl⟩
 · have h':bR l i=true:=by simpa using h
   have:=o3 h'
   unfold ba; rw [if_pos h']; exact ⟨⟨this.1,this.2,hl⟩,rfl,rfl⟩
def je:Ent:=(47,fun
 | [.c (.pd (.lst .stat l)),.c (.pd (.int .i64 i))],[]=>some (some (l.length≤maxLen),.x (.c (.pd (.int .i64 (ba l i)))),[])
 | _,_=>none)
theorem ka:EntOk Tryz.prog je:=entOk fun vs ck=>by
 unfold je; dsimp only; split
 · rename_i l i; exact entS fun hp=>vP l i hp
 · exact entN
theorem wG (hl:l.length≤maxLen):ah Tryz.prog 50 [.l .stat l,.i i,.i j] [] (.x (.b (gg l i j))) []:=by
 refine dg mK Tryz.func50 (.need (l.length≤maxLen) (.need (bR l i=true→l.length≤maxLen) (.need ((bR l i&&bR l j&&decide (j>i))=true→(0:Int)≤i∧i<(l.length:Int)∧l.length≤maxLen) (.ret (.p (.bool (bR l i&&bR l j&&decide (j>i)&&decide (j<(↑(endM l (Int.toNat i)):Int))))) [])))) fun Γ=>?_
 refine ⟨hl,fun _=>hl,fun h=>?_,rfl,rfl⟩
 simp only [af] at h
 have:=o3 h.1.1
 exact ⟨this.1,this.2,hl⟩
def mc:Ent:=(50,fun
 | [.c (.pd (.lst .stat l)),.c (.pd (.int .i64 i)),.c (.pd (.int .i64 j))],[]=>some (some (l.length≤maxLen),.x (.c (.pd (.bool (gg l i j)))),[])
 | _,_=>none)
theorem ri:EntOk Tryz.prog mc:=entOk fun vs ck=>by
 unfold mc; dsimp only; split
 · rename_i l i j; exact entS fun hp=>wG l i j hp
 · exact entN
abbrev zTe2:List PI:=[.code [1,1,0,1,0,0],.inLoop [1,1,0,1,0,0],.inBlock 0,.code [1,1,1]]
theorem Jn (hl:l.length≤maxLen) (Γ:Ctx):∀ (n:Nat) (k:Int), -1≤k→k<(l.length:Int)→k+1<(n:Int) →
 J Tryz.prog 37 (au Tryz.f37) Γ (Eq2 (.x (.i (gr l j n k))) []) zTe2 ({ n:=43,fr:=[(0,.p (.lst .stat l)),(2,.i j),(6,.i 0),(7,.i k)],ck:=[] }):=by
 intro n
 induction n with
 | zero=>intro k h1 h2 h3; omega
 | succ n ih =>
   intro k h1 h2 h3
   refine jg mK Tryz.func37 (.ite (decide (k≥(0:Int))) (.need ((0:Int)≤k∧k<(l.length:Int)) (.need ((Stat.kind (ETy.get .stat l (Int.toNat k))==(2:Int)&&decide (j>k))=true→(0:Int)≤k∧k<(l.length:Int)∧l.length≤maxLen) (.ite (Stat.kind (ETy.get .stat l (Int.toNat k))==(2:Int)&&decide (j>k)&&decide (j<(↑(endM l (Int.toNat k)):Int))) (.ret (.i k) []) (.need ((0:Int)≤k∧k<(l.length:Int)∧l.length≤maxLen) (.stop zTe2 { n:=43,fr:=[(0,.p (.lst .stat l)),(2,.i j),(6,.i 0),(7,.i (upM l (Int.toNat k)))],ck:=[] }))))) (.ret (.i (-1:Int)) [])) ?_
   refine ⟨fun h=>?_,fun h=>?_⟩
   · have hk:k≥0:=of_decide_eq_true h
     have hup:=kC l (ETy.get .stat l k.toNat).depth k.toNat
     have hup' : -1≤upM l k.toNat∧upM l k.toNat<k:=by
      have:((k.toNat:Nat):Int)=k:=dZ hk
      unfold upM; omega
     refine ⟨⟨hk,h2⟩,fun _=>⟨hk,h2,hl⟩,fun hc=>?_,fun hc=>⟨⟨hk,h2,hl⟩,?_⟩⟩
     · rw [gr,if_neg (by omega),if_pos hc]; exact ⟨rfl,rfl⟩
     · rw [gr,if_neg (by omega),if_neg (by rw [hc]; decide)]
       exact ih (upM l k.toNat) hup'.1 (by omega) (by omega)
   · have hk:¬k≥0:=of_decide_eq_false h
     rw [gr,if_pos (by omega)]; exact ⟨rfl,rfl⟩
theorem vY (hl:l.length≤maxLen):ah Tryz.prog 37 [.l .stat l,.i i,.i j] [] (.x (.i (dt l i j))) []:=by
 refine dg mK Tryz.func37 (.need (l.length≤maxLen) (.need ((!bR l i)=false→l.length≤maxLen) (.ite (!bR l i || !bR l j) (.ret (.i (-1:Int)) []) (.stop zTe2 { n:=43,fr:=[(0,.p (.lst .stat l)),(2,.i j),(6,.i 0),(7,.i i)],ck:=[] })))) fun Γ=>?_
 refine ⟨hl,fun _=>hl,fun h=>?_,fun h=>?_⟩
 · have h':(bR l i&&bR l j)=false:=by
    cases h1:bR l i <;> cases h2:bR l j <;> simp_all
   unfold dt; rw [if_neg (by rw [h']; decide)]; exact ⟨rfl,rfl⟩
 · have h':(bR l i&&bR l j)=true:=by
    cases h1:bR l i <;> cases h2:bR l j <;> simp_all
   have hi:=o3 (by simp only [af] at h'; exact h'.1)
   unfold dt; rw [if_pos h']
   exact Jn l j hl Γ (l.length+1) i (by omega) hi.2 (by omega)
def l5:Ent:=(37,fun
 | [.c (.pd (.lst .stat l)),.c (.pd (.int .i64 i)),.c (.pd (.int .i64 j))],[]=>some (some (l.length≤maxLen),.x (.c (.pd (.int .i64 (dt l i j)))),[])
 | _,_=>none)
theorem rR:EntOk Tryz.prog l5:=entOk fun vs ck=>by
 unfold l5; dsimp only; split
 · rename_i l i j; exact entS fun hp=>vY l i j hp
 · exact entN
end Go.Proofs.YtgfifkhbfdacjaaGreatDoor
namespace Go.Proofs.YtgfifkhbfdacjaaGreatDoor
open Go Go.Ev
set_option maxRecDepth 100000
variable (l:List Cell) {b:Bool} (d:Deed) (Γ:Ctx)
theorem nt (h:(!b)=true):b=false:=by cases b <;> simp_all
theorem nf (h:(!b)=false):b=true:=by cases b <;> simp_all
/-! ### plain -/
def jw:Bool:=l.any fun c=>c.op==6
def ox:Bool:=dH l && !jw l
def eC:Bool:=bif d.kind==1 then aZ d.name&&ox d.expr else bif d.kind==2||d.kind==3 then gb d.name&&((d.expr.length:Int)==0) else false
def ft (l:List Deed):Bool:=l.all eC&&(decide ((l.length:Int)>0)&&decide ((l.length:Int)≤8))
def ie (v:Var) (x:Val):Bool:=v.kind==x.kind&&(decide (x.a≥v.lo)&&decide (x.a≤v.hi)&&(x.kind != 3||(decide (x.b≥v.lo)&&decide (x.b≤v.hi))))
/-! ### the program's -/
theorem D6 (c:Cell):ah Tryz.prog 270 [.e .cell c] [] (.x (.b (c.op==6))) []:=by
 refine dg aR Tryz.func270 (.ret (.p (.bool (c.op==(6:Int)))) []) fun Γ=>⟨rfl,rfl⟩
def ve:Ent:=(270,fun
 | [.agg [.pd (.int .i64 a),.pd (.int .i64 b),.pd (.str d)]],[]=>some (none,.x (.c (.pd (.bool (a==6)))),[])
 | _,_=>none)
theorem Gg:EntOk Tryz.prog ve:=entOk fun vs ck=>by
 unfold ve; dsimp only; split
 · rename_i a b d; exact entS fun hp=>D6 ⟨a,b,d⟩
 · exact entN
def sI:Cfg:=⟨aY,[ve]⟩
theorem qh:ag Tryz.prog sI.tab:=(ag.cons Gg ag.nil)
abbrev zUz1:List PI:=[.code [1,0,1,0,0],.inLoop [1,0,1,0,0],.inBlock 0,.code [1,1]]
theorem GE (hl:l.length≤maxLen)  : ∀ (n k:Nat),l.length - k≤n→k≤l.length →
 J Tryz.prog 287 (au Tryz.f287) Γ (Eq2 (.x (.i (aC (fun c:Cell=>c.op==6) (l.drop k) k))) []) zUz1 ({ n:=19,fr:=[(0,.p (.lst .cell l)),(1,.x (.c (.fn (.func 270) [] []))),(4,.i 0),(7,.i l.length),(8,.i k)],ck:=[] }):=by
 intro n
 induction n with
 | zero=>?_
 | succ n ih=>?_
 all_goals
  intro k hn hk
  refine jg qh Tryz.func287 (.ite (decide ((k:Int)<(l.length:Int))) (.need (inRg k l.length) (.ite (Cell.op (ETy.get .cell l k)==(6:Int)) (.ret (.i k) []) (.stop zUz1 { n:=19,fr:=[(0,.p (.lst .cell l)),(1,.x (.c (.fn (.func 270) [] []))),(4,.i 0),(7,.i l.length),(8,.i (IntKind.wrap .i64 ((k:Int)+1)))],ck:=[] }))) (.ret (.i (-1:Int)) [])) ?_
  refine ⟨fun hlt=>?_,fun hge=>?_⟩
  · have hk':k<l.length:=by have:=of_decide_eq_true hlt; omega
    rw [bD (t:=.cell) (l:=l) hk']
    refine ⟨by omega,?_⟩
    generalize ETy.get .cell l k=v
    refine ⟨fun hb=>⟨?_,rfl⟩,fun hb=>?_⟩
    · simp only [aC,hb,cond_true]
    · simp only [aC,hb,cond_false]; (rw [aX (aE hk' hl)]; first | (exfalso; omega) | exact ih (k+1) (by omega) (by omega))
  · rw [bO (l:=l) (by have:=of_decide_eq_false hge; omega)]
    exact ⟨rfl,rfl⟩
theorem FD:ah Tryz.prog 287 [.l .cell (l),SX.c (SC.fn (Fn.func 270) [] [])] [] (.x (.i (aC (fun c:Cell=>c.op==6) l 0))) []:=by
 refine dg qh Tryz.func287 (.stop zUz1 { n:=19,fr:=[(0,.p (.lst .cell l)),(1,.x (.c (.fn (.func 270) [] []))),(4,.i 0),(7,.i l.length),(8,.i 0)],ck:=[] }) fun Γ=>?_
 exact J.len 0 rfl fun hl=>GE l Γ hl l.length 0 (by omega) (by omega)
def AX:Ent:=(287,fun
 | [.c (.pd (.lst .cell l)),.c (.fn (.func 270) [] [])],[]=>some (none,.x (.c (.pd (.int .i64 (aC (fun c:Cell=>c.op==6) l 0)))),[])
 | _,_=>none)
theorem J7:EntOk Tryz.prog AX:=entOk fun vs ck=>by
 unfold AX; dsimp only; split
 · rename_i l; exact entS fun hp=>FD l
 · exact entN
def EH:Cfg:=⟨aY,[AX]⟩
theorem Dr:ag Tryz.prog EH.tab:=(ag.cons J7 ag.nil)
theorem IF:ah Tryz.prog 269 [.l .cell l,.c (.fn (.func 270) [] [])] [] (.x (.b (jw l))) []:=by
 refine dg Dr Tryz.func269 (.ret (.p (.bool (decide (aC (fun c=>c.op==(6:Int)) l (0:Int)≥0)))) []) fun Γ=>⟨?_,rfl⟩
 rw [hP _ _ _ (by omega)]; rfl
def AR:Ent:=(269,fun
 | [.c (.pd (.lst .cell l)),.c (.fn (.func 270) [] [])],[]=>some (none,.x (.c (.pd (.bool (jw l)))),[])
 | _,_=>none)
theorem JG:EntOk Tryz.prog AR:=entOk fun vs ck=>by
 unfold AR; dsimp only; split
 · rename_i l; exact entS fun hp=>IF l
 · exact entN
def wb:Cfg:=⟨aY,[n6,AR]⟩
theorem yv:ag Tryz.prog wb.tab:=(ag.cons sT (ag.cons JG ag.nil))
theorem xS:ah Tryz.prog 242 [.l .cell l] [] (.x (.b (ox l))) []:=by
 refine dg yv Tryz.func242 (.ret (.p (.bool (dH l && !jw l))) []) fun Γ=>?_
 exact ⟨rfl,rfl⟩
def oP:Ent:=(242,fun
 | [.c (.pd (.lst .cell l))],[]=>some (none,.x (.c (.pd (.bool (ox l)))),[])
 | _,_=>none)
theorem BA:EntOk Tryz.prog oP:=entOk fun vs ck=>by
 unfold oP; dsimp only; split
 · rename_i l; exact entS fun hp=>xS l
 · exact entN
def Ab:Cfg:=⟨aY,[jq,oP,oC]⟩
theorem BN:ag Tryz.prog Ab.tab:=(ag.cons ir (ag.cons BA (ag.cons tN ag.nil)))
theorem DB:ah Tryz.prog 216 [.e .deed d] [] (.x (.b (eC d))) []:=by
 refine dg BN Tryz.func216 (.ite (d.kind==(1:Int)) (.ret (.p (.bool (aZ d.name&&ox d.expr))) []) (.ite (d.kind==(2:Int)) (.ret (.p (.bool (gb d.name&&(d.expr.length:Int)==0))) []) (.ite (d.kind==(3:Int)) (.ret (.p (.bool (gb d.name&&(d.expr.length:Int)==0))) []) (.ret (.p (.bool false)) [])))) fun Γ=>?_
 unfold eC
 refine ⟨fun h=>?_,fun h1=>⟨fun h=>?_,fun h2=>⟨fun h=>?_,fun h3=>?_⟩⟩⟩
 · rw [h]; exact ⟨rfl,rfl⟩
 · rw [h1,h]; exact ⟨rfl,rfl⟩
 · rw [h1,h2,h]; exact ⟨rfl,rfl⟩
 · rw [h1,h2,h3]; exact ⟨rfl,rfl⟩
def uJ:Ent:=(216,fun
 | [.agg [.pd (.int .i64 a),.pd (.str b),.pd (.lst .cell d)]],[]=>some (none,.x (.c (.pd (.bool (eC ⟨a,b,d⟩)))),[])
 | _,_=>none)
theorem Gy:EntOk Tryz.prog uJ:=entOk fun vs ck=>by
 unfold uJ; dsimp only; split
 · rename_i a b d; exact entS fun hp=>DB ⟨a,b,d⟩
 · exact entN
def pW:Cfg:=⟨aY,[uJ]⟩
theorem pf:ag Tryz.prog pW.tab:=(ag.cons Gy ag.nil)
theorem JB (l:List Deed) (Γ:Ctx) (hl:l.length≤maxLen)  : ∀ (n k:Nat),l.length - k≤n→k≤l.length →
 J Tryz.prog 176 (au Tryz.f176) Γ (Eq2 (.x (.b ((l.drop k).all eC&&(decide ((l.length:Int)>0)&&decide ((l.length:Int)≤8))))) []) zUz1 ({ n:=23,fr:=[(0,.p (.lst .deed l)),(2,.p (.bool false)),(5,.p (.lst .deed l)),(6,.i l.length),(7,.i k)],ck:=[],kn:=[2] }):=by
 intro n
 induction n with
 | zero=>?_
 | succ n ih=>?_
 all_goals
  intro k hn hk
  refine jg pf Tryz.func176 (.ite (decide ((k:Int)<(l.length:Int))) (.need (inRg k l.length) (.ite (!eC (ETy.get .deed l k)) (.ret (.p (.bool false)) []) (.stop zUz1 { n:=23,fr:=[(0,.p (.lst .deed l)),(2,.p (.bool false)),(5,.p (.lst .deed l)),(6,.i l.length),(7,.i (IntKind.wrap .i64 ((k:Int)+1)))],ck:=[],kn:=[2] }))) (.ret (.p (.bool (decide ((l.length:Int)>0)&&decide ((l.length:Int)≤8)))) [])) ?_
  refine ⟨fun hlt=>?_,fun hge=>?_⟩
  · have hk':k<l.length:=by have:=of_decide_eq_true hlt; omega
    rw [bD (t:=.deed) (l:=l) hk']
    refine ⟨by omega,?_⟩
    generalize ETy.get .deed l k=v
    rw [da]
    refine ⟨fun hb=>⟨?_,rfl⟩,fun hb=>?_⟩
    · have hb':eC v=false:=nt hb
      rw [hb']; rfl
    · have hb':eC v=true:=nf hb
      rw [hb',aS]; (rw [aX (aE hk' hl)]; first | (exfalso; omega) | exact ih (k+1) (by omega) (by omega))
  · rw [bO (l:=l) (by have:=of_decide_eq_false hge; omega)]
    exact ⟨rfl,rfl⟩
theorem Ka (l:List Deed):ah Tryz.prog 176 [.l .deed (l)] [] (.x (.b (ft l))) []:=by
 refine dg pf Tryz.func176 (.stop zUz1 { n:=23,fr:=[(0,.p (.lst .deed l)),(2,.p (.bool false)),(5,.p (.lst .deed l)),(6,.i l.length),(7,.i 0)],ck:=[],kn:=[2] }) fun Γ=>?_
 exact J.len 0 rfl fun hl=>JB l Γ hl l.length 0 (by omega) (by omega)
def qq:Ent:=(176,fun
 | [.c (.pd (.lst .deed l))],[]=>some (none,.x (.c (.pd (.bool (ft l)))),[])
 | _,_=>none)
theorem Fq:EntOk Tryz.prog qq:=entOk fun vs ck=>by
 unfold qq; dsimp only; split
 · rename_i l; exact entS fun hp=>Ka l
 · exact entN
end Go.Proofs.YtgfifkhbfdacjaaGreatDoor
namespace Go.Proofs.YtgfifkhbfdacjaaGreatDoor
open Go Go.Ev
set_option maxRecDepth 100000
theorem J.settle {P:Program} {f:FuncId} {root:Code} {Γ:Ctx} {Q:Out} {todo:List PI} {st:ST} {t s:Nat} {want:Bool} {v:SX} (hm:(t,SV.grd s want v)∈st.fr) (hb:lookup st.fr s=some (.x (.c (.pd (.bool want))))) {fr':List (Nat×SV)} (hf:∀ p∈fr',p∈st.fr∨p=(t,.x v))
 (hk:J P f root Γ Q todo { st with fr:=fr' }):J P f root Γ Q todo st:=by
 intro hT V a w r
 have hon:a.tmps.getD s undef = .bool want:=by
  have:=r.slots s _ (b3 hb)
  have h2:SX.R V (.c (.pd (.bool want))) (a.tmps.getD s undef):=this
  generalize a.tmps.getD s undef=u at h2 ⊢
  cases h2; rfl
 have hv:b4 V a t (.x v):=(r.slots t _ hm).1 hon
 refine hk hT V a w ⟨r.1,r.2,fun t' sv h'=>?_,r.4,r.5⟩
 rcases hf _ h' with h | h
 · exact r.slots _ _ h
 · simp only [ae] at h
   obtain ⟨rfl,rfl⟩:=h; exact hv
def yL (P:Program) (cfg:Cfg) (root:Code) (p:List Nat) (i:Nat) (st:ST):Option (Option Prop×ST) :=
 match (opsOf (sub root p))[i]? with
 | some o=>match o.guard with
   | none=>n5 P cfg o st
   | some _=>none
 | none=>none
theorem J.step {P:Program} {cfg:Cfg} {f:FuncId} {root:Code} {Γ:Ctx} {Q:Out} {st st':ST} (ht:ag P cfg.tab) {p:List Nat} {i:Nat} {k:List PI} {q:Option Prop} (h:yL P cfg root p i st=some (q,st')) (hq:Holds q) (hk:J P f root Γ Q (.ops p (i+1)::k) st'):J P f root Γ Q (.ops p i::k) st:=by
 unfold yL at h
 split at h
 · rename_i o ho
   split at h
   · rename_i hg
     intro hT V a w r
     have hi:i<(opsOf (sub root p)).size:=(Array.getElem?_eq_some_iff.1 ho).1
     have hsz:(opsOf (sub root p)).size - i=((opsOf (sub root p)).size - (i+1))+1:=by omega
     simp only [aw,PI.den]
     rw [hsz,bB]
     exact iO ⟨ht,hT⟩ r ho (by simp only [Region.wanted,hg]) h hq fun V' a' w' r'=>hk hT V' a' w' r'
   · cases h
 · cases h
/-! ### lists, alike -/
end Go.Proofs.YtgfifkhbfdacjaaGreatDoor
namespace Go.Proofs.YtgfifkhbfdacjaaGreatDoor
open Go Go.Ev
set_option maxRecDepth 100000
abbrev zUr2:List PI:=[.code [1,0,1,0,0],.inLoop [1,0,1,0,0],.inBlock 0,.code [1,1]]
theorem Ju (l:List Cell) (Γ:Ctx) (hl:l.length≤maxLen)  : ∀ (n k:Nat),l.length - k≤n→k≤l.length →
 J Tryz.prog 199 (au Tryz.f199) Γ (Eq2 (.x (.b (jw (l.drop k)))) []) zUr2 ({ n:=16,fr:=[(0,.p (.lst .cell l)),(2,.p (.bool false)),(3,.i k)],ck:=[],kn:=[2] }):=by
 intro n
 induction n with
 | zero=>?_
 | succ n ih=>?_
 all_goals
  intro k hn hk
  refine jg aR Tryz.func199 (.ite (decide ((k:Int)<(l.length:Int))) (.need (inRg k l.length) (.ite (Cell.op (ETy.get .cell l k)==(6:Int)) (.ret (.p (.bool true)) []) (.stop zUr2 { n:=16,fr:=[(0,.p (.lst .cell l)),(2,.p (.bool false)),(3,.i (IntKind.wrap .i64 ((k:Int)+1)))],ck:=[],kn:=[2] }))) (.ret (.p (.bool false)) [])) ?_
  refine ⟨fun hlt=>?_,fun hge=>?_⟩
  · have hk':k<l.length:=by have:=of_decide_eq_true hlt; omega
    rw [bD (t:=.cell) (l:=l) hk']
    refine ⟨by omega,?_⟩
    generalize ETy.get .cell l k=v
    have e:jw (v::l.drop (k+1))=(v.op==6||jw (l.drop (k+1))):=cS
    rw [e]
    refine ⟨fun hb=>⟨?_,rfl⟩,fun hb=>?_⟩
    · have hb':(v.op==6)=true:=hb
      rw [hb']; rfl
    · have hb':(v.op==6)=false:=hb
      rw [hb',bf]; (rw [aX (aE hk' hl)]; first | (exfalso; omega) | exact J.kn [2] (ih (k+1) (by omega) (by omega)))
  · rw [bO (l:=l) (by have:=of_decide_eq_false hge; omega)]
    exact ⟨rfl,rfl⟩
theorem Kj (l:List Cell):ah Tryz.prog 199 [.l .cell (l)] [] (.x (.b (jw l))) []:=by
 refine dg aR Tryz.func199 (.stop zUr2 { n:=16,fr:=[(0,.p (.lst .cell l)),(2,.p (.bool false)),(3,.i 0)],ck:=[],kn:=[2] }) fun Γ=>?_
 exact J.len 0 rfl fun hl=>Ju l Γ hl l.length 0 (by omega) (by omega)
def rm:Ent:=(199,fun
 | [.c (.pd (.lst .cell l))],[]=>some (none,.x (.c (.pd (.bool (jw l)))),[])
 | _,_=>none)
theorem Fc:EntOk Tryz.prog rm:=entOk fun vs ck=>by
 unfold rm; dsimp only; split
 · rename_i l; exact entS fun hp=>Kj l
 · exact entN
def yR:Cfg:=⟨aY,[nL,ma,rm,k9]⟩
theorem BD:ag Tryz.prog yR.tab:=(ag.cons ml (ag.cons qL (ag.cons Fc (ag.cons wS ag.nil))))
theorem E8 (d:Deed):ah Tryz.prog 169 [.e .deed d] [] (.x (.b (eC d))) []:=by
 refine dg BD Tryz.func169 (.ite (d.kind==(1:Int)) (.ret (.p (.bool (aZ d.name&&dH d.expr && !jw d.expr))) []) (.ret (.p (.bool ((d.kind==(2:Int)||d.kind==(3:Int))&&gb d.name&&(d.expr.length:Int)==0))) [])) fun Γ=>?_
 unfold eC ox
 refine ⟨fun h=>?_,fun h=>?_⟩
 · rw [h,cond_true,← eT]; exact ⟨rfl,rfl⟩
 · rw [h,cond_false]
   cases h2:(d.kind==2||d.kind==3)
   · rw [a6,a6]; exact ⟨rfl,rfl⟩
   · rw [aS]; exact ⟨rfl,rfl⟩
def uL:Ent:=(169,fun
 | [.agg [.pd (.int .i64 a),.pd (.str b),.pd (.lst .cell d)]],[]=>some (none,.x (.c (.pd (.bool (eC ⟨a,b,d⟩)))),[])
 | _,_=>none)
theorem Iw:EntOk Tryz.prog uL:=entOk fun vs ck=>by
 unfold uL; dsimp only; split
 · rename_i a b d; exact entS fun hp=>E8 ⟨a,b,d⟩
 · exact entN
def oo:Cfg:=⟨aY,[uL]⟩
theorem nz:ag Tryz.prog oo.tab:=(ag.cons Iw ag.nil)
abbrev zUr1:List PI:=[.code [1,1,0,1,0,0],.inLoop [1,1,0,1,0,0],.inBlock 0,.code [1,1,1]]
theorem HD (l:List Deed) (Γ:Ctx) (hl:l.length≤maxLen)  : ∀ (n k:Nat),l.length - k≤n→k≤l.length →
 J Tryz.prog 128 (au Tryz.f128) Γ (Eq2 (.x (.b ((l.drop k).all eC))) []) zUr1 ({ n:=24,fr:=[(0,.p (.lst .deed l)),(2,.p (.bool false)),(3,.i k)],ck:=[],kn:=[2] }):=by
 intro n
 induction n with
 | zero=>?_
 | succ n ih=>?_
 all_goals
  intro k hn hk
  refine jg nz Tryz.func128 (.ite (decide ((k:Int)<(l.length:Int))) (.need (inRg k l.length) (.ite (!eC (ETy.get .deed l k)) (.ret (.p (.bool false)) []) (.stop zUr1 { n:=24,fr:=[(0,.p (.lst .deed l)),(2,.p (.bool false)),(3,.i (IntKind.wrap .i64 ((k:Int)+1)))],ck:=[],kn:=[2] }))) (.ret (.p (.bool true)) [])) ?_
  refine ⟨fun hlt=>?_,fun hge=>?_⟩
  · have hk':k<l.length:=by have:=of_decide_eq_true hlt; omega
    rw [bD (t:=.deed) (l:=l) hk']
    refine ⟨by omega,?_⟩
    generalize ETy.get .deed l k=v
    rw [da]
    refine ⟨fun hb=>⟨?_,rfl⟩,fun hb=>?_⟩
    · have hb':eC v=false:=nt hb
      rw [hb']; rfl
    · have hb':eC v=true:=nf hb
      rw [hb',aS]; (rw [aX (aE hk' hl)]; first | (exfalso; omega) | exact J.kn [2] (ih (k+1) (by omega) (by omega)))
  · rw [bO (l:=l) (by have:=of_decide_eq_false hge; omega)]
    exact ⟨rfl,rfl⟩
theorem yf (l:List Deed):ah Tryz.prog 128 [.l .deed l] [] (.x (.b (ft l))) []:=by
 refine dg nz Tryz.func128 (.ite (decide ((l.length:Int)<1)||decide ((l.length:Int)>8)) (.ret (.p (.bool false)) []) (.stop zUr1 { n:=24,fr:=[(0,.p (.lst .deed l)),(2,.p (.bool false)),(3,.i 0)],ck:=[],kn:=[2] })) fun Γ=>?_
 refine ⟨fun h=>⟨?_,rfl⟩,fun h=>?_⟩
 · have:ft l=false:=by
    unfold ft
    simp only [aM,decide_eq_true_eq] at h
    cases l.all eC
    · rfl
    · rw [aS,cr]
      rcases h with h | h
      · left; exact decide_eq_false (by omega)
      · right; exact decide_eq_false (by omega)
   rw [this]
 · simp only [ay,decide_eq_false_iff_not] at h
   have:ft l=(l.drop 0).all eC:=by
    unfold ft
    rw [decide_eq_true (show (l.length:Int)>0 by omega),decide_eq_true (show (l.length:Int)≤8 by omega)]; simp
   rw [this]
   exact J.len 0 rfl fun hl=>HD l Γ hl l.length 0 (by omega) (by omega)
def oL:Ent:=(128,fun
 | [.c (.pd (.lst .deed l))],[]=>some (none,.x (.c (.pd (.bool (ft l)))),[])
 | _,_=>none)
theorem B0:EntOk Tryz.prog oL:=entOk fun vs ck=>by
 unfold oL; dsimp only; split
 · rename_i l; exact entS fun hp=>yf l
 · exact entN
end Go.Proofs.YtgfifkhbfdacjaaGreatDoor
