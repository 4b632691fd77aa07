/- Contracts: valid.Check's questions. Conditions: sizes. Contracts: valid.Check: each's loops. Conditions: sizes. -/
import Derived.Test.YtcopfgbbjdefbaaGreatDoorTm
namespace Go.Proofs.YtcopfgbbjdefbaaGreatDoor
open Go Go.Ev
set_option maxRecDepth 100000
def F7:Cfg:=⟨bk,[oc]⟩
theorem Dj:ah Tryz.prog F7.tab:=(ah.cons Ag ah.nil)
variable (c:Chart) (a:List Str) (i:Int) (b l:List Str)
def fv:List Str:=gk [[c.name],c.events,a,b]
theorem Ij (h:(fv c a b).length≤1000000):ag Tryz.prog 85 [.p (.ref .chart c 0),.p (.ref .strs a 0),.p (.ref .strs b 0)] [] (.x (.c (.own 0))) [.own 9 .str (fv c a b)]:=by
 refine dg Dj Tryz.func85 (.need ((gk [[c.name],c.events,a,b]).length≤1000000) (.ret (.x (.c (.own 0))) [.own 9 .str (gk [[c.name],c.events,a,b])])) fun Γ=>?_
 exact ⟨h,rfl,rfl⟩
def eQ2:Ent:=(85,fun
 | [.c (.pd (.ref .chart c 0)),.c (.pd (.ref .strs a 0)),.c (.pd (.ref .strs b 0))],[]=>some (some ((fv c a b).length≤1000000),.x (.c (.own 0)),[.own 9 .str (fv c a b)])
 | _,_=>none)
theorem IE:EntOk Tryz.prog eQ2:=entOk fun vs ck=>by
 unfold eQ2; dsimp only; split
 · rename_i c a b; exact entS fun hp=>Ij c a b hp
 · exact entN
def CS:Cfg:=⟨bk,[iU]⟩
theorem BR:ah Tryz.prog CS.tab:=(ah.cons gX ah.nil)
theorem Eb (s:Str):ag Tryz.prog 91 [.s s] [] (.x (.b (!aU s))) []:=by
 refine dg BR Tryz.func91 (.ret (.p (.bool !aU s)) []) fun Γ=>⟨rfl,rfl⟩
def AF:Ent:=(91,fun
 | [.c (.pd (.str s))],[]=>some (none,.x (.c (.pd (.bool (!aU s)))),[])
 | _,_=>none)
theorem HC:EntOk Tryz.prog AF:=entOk fun vs ck=>by
 unfold AF; dsimp only; split
 · rename_i s; exact entS fun hp=>Eb s
 · exact entN
def xS:Cfg:=⟨bk,[AF]⟩
theorem vH:ah Tryz.prog xS.tab:=(ah.cons HC ah.nil)
abbrev zTo1:List PI:=[.code [1,0,1,0,0],.inLoop [1,0,1,0,0],.inBlock 0,.code [1,1]]
theorem FD (Γ:Ctx) (hl:l.length≤maxLen)  : ∀ (n k:Nat),l.length - k≤n→k≤l.length →
 J Tryz.prog 137 (aw Tryz.f137) Γ (Eq2 (.x (.i (aJ (fun s:Str=>!aU s) (l.drop k) k))) []) zTo1 ({ n:=19,fr:=[(0,.p (.lst .str l)),(1,.x (.c (.fn (.func 91) [] []))),(4,.i 0),(7,.i l.length),(8,.i k)],ck:=[] }):=by
 intro n
 induction n with
 | zero=>?_
 | succ n ih=>?_
 all_goals
  intro k hn hk
  refine jg vH Tryz.func137 (.ite (decide ((k:Int)<(l.length:Int))) (.need (inRg k l.length) (.ite (!aU (ETy.get .str l k)) (.ret (.i k) []) (.stop zTo1 { n:=19,fr:=[(0,.p (.lst .str l)),(1,.x (.c (.fn (.func 91) [] []))),(4,.i 0),(7,.i l.length),(8,.i (IntKind.wrap .i64 ((k:Int)+1)))],ck:=[] }))) (.ret (.i (-1:Int)) [])) ?_
  refine ⟨fun hlt=>?_,fun hge=>?_⟩
  · have hk':k<l.length:=by have:=of_decide_eq_true hlt; omega
    rw [bL (t:=.str) (l:=l) hk']
    refine ⟨by omega,?_⟩
    generalize ETy.get .str l k=v
    refine ⟨fun hb=>⟨?_,rfl⟩,fun hb=>?_⟩
    · simp only [aJ,hb,cond_true]
    · simp only [aJ,hb,cond_false]; (rw [aZ (aE hk' hl)]; first | (exfalso; omega) | exact ih (k+1) (by omega) (by omega))
  · rw [bY (l:=l) (by have:=of_decide_eq_false hge; omega)]
    exact ⟨rfl,rfl⟩
theorem DN:ag Tryz.prog 137 [.l .str (l),SX.c (SC.fn (Fn.func 91) [] [])] [] (.x (.i (aJ (fun s:Str=>!aU s) l 0))) []:=by
 refine dg vH Tryz.func137 (.stop zTo1 { n:=19,fr:=[(0,.p (.lst .str l)),(1,.x (.c (.fn (.func 91) [] []))),(4,.i 0),(7,.i l.length),(8,.i 0)],ck:=[] }) fun Γ=>?_
 exact J.len 0 rfl fun hl=>FD l Γ hl l.length 0 (by omega) (by omega)
def yg:Ent:=(137,fun
 | [.c (.pd (.lst .str l)),.c (.fn (.func 91) [] [])],[]=>some (none,.x (.c (.pd (.int .i64 (aJ (fun s:Str=>!aU s) l 0)))),[])
 | _,_=>none)
theorem G2:EntOk Tryz.prog yg:=entOk fun vs ck=>by
 unfold yg; dsimp only; split
 · rename_i l; exact entS fun hp=>DN l
 · exact entN
def Gd:Cfg:=⟨bk,[yg]⟩
theorem DH:ah Tryz.prog Gd.tab:=(ah.cons G2 ah.nil)
theorem GE:ag Tryz.prog 90 [.l .str l,.c (.fn (.func 91) [] [])] [] (.x (.b (l.any fun s:Str=>!aU s))) []:=by
 refine dg DH Tryz.func90 (.ret (.p (.bool (decide (aJ (fun s=>!aU s) l (0:Int)≥0)))) []) fun Γ=>⟨?_,rfl⟩
 rw [kS _ _ _ (by omega)]
def eCf:Ent:=(90,fun
 | [.c (.pd (.lst .str l)),.c (.fn (.func 91) [] [])],[]=>some (none,.x (.c (.pd (.bool (l.any fun s:Str=>!aU s)))),[])
 | _,_=>none)
theorem IG:EntOk Tryz.prog eCf:=entOk fun vs ck=>by
 unfold eCf; dsimp only; split
 · rename_i l; exact entS fun hp=>GE l
 · exact entN
def Gg:Cfg:=⟨bk,[eQ2,eCf,jC]⟩
theorem EA:ah Tryz.prog Gg.tab:=(ah.cons IE (ah.cons IG (ah.cons iO ah.nil)))
theorem GU (h:(fv c a b).length≤1000000):ag Tryz.prog 89 [.p (.fnAt [(85,[.ref .chart c 0,.ref .strs a 0,.ref .strs b 0])] 0)] [] (.x (.i (bM (!(fv c a b).any fun s:Str=>!aU s) 2))) []:=by
 refine dg EA Tryz.func89 (.need ((fv c a b).length≤1000000) (.ret (.i (bM (!List.any (fv c a b) fun s=>!aU s) (2:Int))) [])) fun Γ=>?_
 exact ⟨h,rfl,rfl⟩
def eQ4:Ent:=(89,fun
 | [.c (.pd (.fnAt [(85,[.ref .chart c 0,.ref .strs a 0,.ref .strs b 0])] 0))],[]=>some (some ((fv c a b).length≤1000000),.x (.c (.pd (.int .i64 (bM (!(fv c a b).any fun s:Str=>!aU s) 2)))),[])
 | _,_=>none)
theorem IC:EntOk Tryz.prog eQ4:=entOk fun vs ck=>by
 unfold eQ4; dsimp only; split
 · rename_i c a b; exact entS fun hp=>GU c a b hp
 · exact entN
def gz:Bool:=decide ((c.events.length:Int)≤12)&&decide ((c.vars.length:Int)≤8)&&decide ((c.states.length:Int)≤40)&&decide ((c.trans.length:Int)≤48)
def iq:Bool:=fT c.events&&fT a&&fT b
def F4:Cfg:=⟨bk,[jC]⟩
theorem DA:ah Tryz.prog F4.tab:=(ah.cons iO ah.nil)
theorem HQ:ag Tryz.prog 87 [.p (.ref .chart c 0)] [] (.x (.i (bM (gz c) 4))) []:=by
 refine dg DA Tryz.func87 (.ret (.i (bM (decide ((c.events.length:Int)≤12)&&decide ((c.vars.length:Int)≤8)&&decide ((c.states.length:Int)≤40)&&decide ((c.trans.length:Int)≤48)) (4:Int))) []) fun Γ=>⟨rfl,rfl⟩
def eQ3:Ent:=(87,fun
 | [.c (.pd (.ref .chart c 0))],[]=>some (none,.x (.c (.pd (.int .i64 (bM (gz c) 4)))),[])
 | _,_=>none)
theorem IB:EntOk Tryz.prog eQ3:=entOk fun vs ck=>by
 unfold eQ3; dsimp only; split
 · rename_i c; exact entS fun hp=>HQ c
 · exact entN
def Gh:Cfg:=⟨bk,[tz,jC]⟩
theorem ET:ah Tryz.prog Gh.tab:=(ah.cons EF (ah.cons iO ah.nil))
theorem GF (h:c.events.length≤1000000∧a.length≤1000000∧b.length≤1000000):ag Tryz.prog 92 [.p (.ref .chart c 0),.p (.ref .strs a 0),.p (.ref .strs b 0)] [] (.x (.i (bM (iq c a b) 3))) []:=by
 refine dg ET Tryz.func92 (.need (c.events.length≤1000000) (.need (fT c.events=true→a.length≤1000000) (.need ((fT c.events&&fT a)=true→b.length≤1000000) (.ret (.i (bM (fT c.events&&fT a&&fT b) (3:Int))) [])))) fun Γ=>?_
 exact ⟨h.1,fun _=>h.2.1,fun _=>h.2.2,rfl,rfl⟩
def eQ5:Ent:=(92,fun
 | [.c (.pd (.ref .chart c 0)),.c (.pd (.ref .strs a 0)),.c (.pd (.ref .strs b 0))],[]=>some (some (c.events.length≤1000000∧a.length≤1000000∧b.length≤1000000),.x (.c (.pd (.int .i64 (bM (iq c a b) 3)))),[])
 | _,_=>none)
theorem Iq:EntOk Tryz.prog eQ5:=entOk fun vs ck=>by
 unfold eQ5; dsimp only; split
 · rename_i c a b; exact entS fun hp=>GF c a b hp
 · exact entN
def Gp:Cfg:=⟨bk,[lj,jC]⟩
theorem Dw:ah Tryz.prog Gp.tab:=(ah.cons pn (ah.cons iO ah.nil))
theorem GJ (h:c.states.length≤maxLen):ag Tryz.prog 94 [.p (.ref .chart c 0)] [] (.x (.i (bM (bT c.states) 9))) []:=by
 refine dg Dw Tryz.func94 (.need (c.states.length≤maxLen) (.ret (.i (bM (bT c.states) (9:Int))) [])) fun Γ=>?_
 exact ⟨h,rfl,rfl⟩
def eQ6:Ent:=(94,fun
 | [.c (.pd (.ref .chart c 0))],[]=>some (some (c.states.length≤maxLen),.x (.c (.pd (.int .i64 (bM (bT c.states) 9)))),[])
 | _,_=>none)
theorem IH:EntOk Tryz.prog eQ6:=entOk fun vs ck=>by
 unfold eQ6; dsimp only; split
 · rename_i c; exact entS fun hp=>GJ c hp
 · exact entN
def pK:Cfg:=⟨bk,[pD,tn,tw,AW]⟩
theorem l9:ah Tryz.prog pK.tab:=(ah.cons Cm (ah.cons DU (ah.cons Dx (ah.cons HP ah.nil))))
theorem G7 (h:0≤i∧i<(c.states.length:Int)∧c.states.length≤maxLen):ag Tryz.prog 96 [.i i,.p (.ref .chart c 0)] [] (.x (.i (c6 c.states i.toNat))) []:=by
 refine dg l9 Tryz.func96 (.need ((0:Int)≤i∧i<(c.states.length:Int)∧c.states.length≤maxLen) (.ret (.i (c6 c.states (Int.toNat i))) [])) fun Γ=>⟨h,rfl,rfl⟩
def eQ7:Ent:=(96,fun
 | [.c (.pd (.int .i64 i)),.c (.pd (.ref .chart c 0))],[]=>some (some (0≤i∧i<(c.states.length:Int)∧c.states.length≤maxLen),.x (.c (.pd (.int .i64 (c6 c.states i.toNat)))),[])
 | _,_=>none)
theorem I0:EntOk Tryz.prog eQ7:=entOk fun vs ck=>by
 unfold eQ7; dsimp only; split
 · rename_i i c; exact entS fun hp=>G7 c i hp
 · exact entN
theorem Ha (h:0≤i∧i<(c.vars.length:Int)):ag Tryz.prog 98 [.i i,.p (.ref .chart c 0)] [] (.x (.i (dL (ETy.get .var c.vars i.toNat)))) []:=by
 refine dg l9 Tryz.func98 (.need ((0:Int)≤i∧i<(c.vars.length:Int)) (.ret (.i (dL (ETy.get .var c.vars (Int.toNat i)))) [])) fun Γ=>⟨h,rfl,rfl⟩
def eQ8:Ent:=(98,fun
 | [.c (.pd (.int .i64 i)),.c (.pd (.ref .chart c 0))],[]=>some (some (0≤i∧i<(c.vars.length:Int)),.x (.c (.pd (.int .i64 (dL (ETy.get .var c.vars i.toNat))))),[])
 | _,_=>none)
theorem I5:EntOk Tryz.prog eQ8:=entOk fun vs ck=>by
 unfold eQ8; dsimp only; split
 · rename_i i c; exact entS fun hp=>Ha c i hp
 · exact entN
theorem Hb (h:0≤i∧i<(c.states.length:Int)):ag Tryz.prog 100 [.i i,.p (.ref .chart c 0)] [] (.x (.i (cG c (ETy.get .stat c.states i.toNat)))) []:=by
 refine dg l9 Tryz.func100 (.need ((0:Int)≤i∧i<(c.states.length:Int)) (.ret (.i (cG c (ETy.get .stat c.states (Int.toNat i)))) [])) fun Γ=>⟨h,rfl,rfl⟩
def eQ9:Ent:=(100,fun
 | [.c (.pd (.int .i64 i)),.c (.pd (.ref .chart c 0))],[]=>some (some (0≤i∧i<(c.states.length:Int)),.x (.c (.pd (.int .i64 (cG c (ETy.get .stat c.states i.toNat))))),[])
 | _,_=>none)
theorem Iw:EntOk Tryz.prog eQ9:=entOk fun vs ck=>by
 unfold eQ9; dsimp only; split
 · rename_i i c; exact entS fun hp=>Hb c i hp
 · exact entN
theorem EV (h:0≤i∧i<(c.trans.length:Int)∧c.states.length≤maxLen∧c.trans.length≤maxLen):ag Tryz.prog 102 [.i i,.p (.ref .chart c 0),.p (.ref .strs l 0)] [] (.x (.i (cK c i.toNat l (ETy.get .tran c.trans i.toNat)))) []:=by
 refine dg l9 Tryz.func102 (.need ((0:Int)≤i∧i<(c.trans.length:Int)∧c.states.length≤maxLen∧c.trans.length≤maxLen) (.ret (.i (cK c (Int.toNat i) l (ETy.get .tran c.trans (Int.toNat i)))) [])) fun Γ=>⟨h,rfl,rfl⟩
def y9:Ent:=(102,fun
 | [.c (.pd (.int .i64 i)),.c (.pd (.ref .chart c 0)),.c (.pd (.ref .strs l 0))],[]=>some (some (0≤i∧i<(c.trans.length:Int)∧c.states.length≤maxLen∧c.trans.length≤maxLen),.x (.c (.pd (.int .i64 (cK c i.toNat l (ETy.get .tran c.trans i.toNat))))),[])
 | _,_=>none)
theorem GT:EntOk Tryz.prog y9:=entOk fun vs ck=>by
 unfold y9; dsimp only; split
 · rename_i i c l; exact entS fun hp=>EV c i l hp
 · exact entN
end Go.Proofs.YtcopfgbbjdefbaaGreatDoor
namespace Go.Proofs.YtcopfgbbjdefbaaGreatDoor
open Go Go.Ev
set_option maxRecDepth 100000
abbrev zJ83Tp:=J Tryz.prog 83 (aw Tryz.f83)
def bK (f:Nat→Int):Nat→Nat→Int
 | _,0=>0
 | k,m+1=>if (f k != 0)=true then f k else bK f (k+1) m
theorem iX (f:Nat→Int) {k n:Nat} (h:k<n):bK f k (n - k)=if (f k != 0)=true then f k else bK f (k+1) (n - (k+1)):=by
 obtain ⟨m,hm⟩:∃ m,n - k=m+1:=⟨n - k - 1,by omega⟩
 rw [hm,show n - (k+1)=m by omega]; rfl
def ye:Cfg:=⟨bk,[eQ7]⟩
theorem vV:ah Tryz.prog ye.tab:=(ah.cons I0 ah.nil)
abbrev zTp1:List PI:=[.code [1,0,1,0,0],.inLoop [1,0,1,0,0],.inBlock 0,.code [1,1]]
variable (c:Chart) (l:List Str) (n:Nat) (Γ:Ctx)
theorem H7 (hn:n≤c.states.length) (h0:c.states.length≤maxLen) (hm:n≤maxLen):∀ (m k:Nat),n - k≤m→k≤n →
 zJ83Tp Γ (Eq2 (.x (.i (bK (fun k:Nat=>c6 c.states k) k (n - k)))) []) zTp1 ({ n:=16,fr:=[(1,.p (PD.fnAt [(96,[.ref .chart c 0])] 0)),(2,.i 0),(5,.i n),(6,.i ((k:Int)))],ck:=[] }):=by
 intro m
 induction m with
 | zero=>?_
 | succ m ih=>?_
 all_goals
  intro k hmk hk
  refine jg vV Tryz.func83 (.ite (decide ((k:Int)<(n:Int))) (.need ((0:Int)≤(k:Int)∧(k:Int)<(c.states.length:Int)∧c.states.length≤maxLen) (.ite (c6 c.states k != (0:Int)) (.ret (.i (c6 c.states k)) []) (.stop zTp1 { n:=16,fr:=[(1,.p (PD.fnAt [(96,[.ref .chart c 0])] 0)),(2,.i 0),(5,.i n),(6,.i (IntKind.wrap .i64 ((k:Int)+1)))],ck:=[] }))) (.ret (.i 0) [])) ?_
  refine ⟨fun hlt=>?_,fun hge=>?_⟩
  · have hk':k<n:=by have:=of_decide_eq_true hlt; omega
    rw [iX _ hk']
    refine ⟨⟨by omega,by omega,h0⟩,fun hb=>?_,fun hb=>?_⟩
    · rw [if_pos (by exact hb)]; exact ⟨rfl,rfl⟩
    · rw [if_neg (by rw [show _=false from hb]; decide)]
      rw [aZ (aE hk' hm)]
      first | (exfalso; omega) | exact ih (k+1) (by omega) (by omega)
  · have hke:n - k=0:=by have:=of_decide_eq_false hge; omega
    rw [hke]; exact ⟨rfl,rfl⟩
theorem IF (hn:n≤c.states.length) (h0:c.states.length≤maxLen) (hm:n≤maxLen):ag Tryz.prog 83 [.p (.ref .int (n:Int) 0),.p (.fnAt [(96,[.ref .chart c 0])] 0)] [] (.x (.i (bK (fun k:Nat=>c6 c.states k) 0 n))) []:=by
 refine dg vV Tryz.func83 (.stop zTp1 { n:=16,fr:=[(1,.p (PD.fnAt [(96,[.ref .chart c 0])] 0)),(2,.i 0),(5,.i n),(6,.i 0)],ck:=[] }) fun Γ=>?_
 exact H7 c n Γ hn h0 hm n 0 (by omega) (by omega)
theorem HN (n:Int) (h:n=(c.states.length:Int)) (h0:c.states.length≤maxLen) (hm:c.states.length≤maxLen):ag Tryz.prog 83 [.p (.ref .int n 0),.p (.fnAt [(96,[.ref .chart c 0])] 0)] [] (.x (.i (bK (fun k:Nat=>c6 c.states k) 0 c.states.length))) []:=by
 subst h
 exact IF c _ (ar _) h0 hm
def yr:Cfg:=⟨bk,[eQ8]⟩
theorem uk:ah Tryz.prog yr.tab:=(ah.cons I5 ah.nil)
theorem Ii (hn:n≤c.vars.length) (hm:n≤maxLen):∀ (m k:Nat),n - k≤m→k≤n →
 zJ83Tp Γ (Eq2 (.x (.i (bK (fun k:Nat=>dL (ETy.get .var c.vars k)) k (n - k)))) []) zTp1 ({ n:=16,fr:=[(1,.p (PD.fnAt [(98,[.ref .chart c 0])] 0)),(2,.i 0),(5,.i n),(6,.i ((k:Int)))],ck:=[] }):=by
 intro m
 induction m with
 | zero=>?_
 | succ m ih=>?_
 all_goals
  intro k hmk hk
  refine jg uk Tryz.func83 (.ite (decide ((k:Int)<(n:Int))) (.need (inRg k c.vars.length) (.ite (dL (ETy.get .var c.vars k) != (0:Int)) (.ret (.i (dL (ETy.get .var c.vars k))) []) (.stop zTp1 { n:=16,fr:=[(1,.p (PD.fnAt [(98,[.ref .chart c 0])] 0)),(2,.i 0),(5,.i n),(6,.i (IntKind.wrap .i64 ((k:Int)+1)))],ck:=[] }))) (.ret (.i 0) [])) ?_
  refine ⟨fun hlt=>?_,fun hge=>?_⟩
  · have hk':k<n:=by have:=of_decide_eq_true hlt; omega
    rw [iX _ hk']
    refine ⟨⟨by omega,by omega⟩,fun hb=>?_,fun hb=>?_⟩
    · rw [if_pos (by exact hb)]; exact ⟨rfl,rfl⟩
    · rw [if_neg (by rw [show _=false from hb]; decide)]
      rw [aZ (aE hk' hm)]
      first | (exfalso; omega) | exact ih (k+1) (by omega) (by omega)
  · have hke:n - k=0:=by have:=of_decide_eq_false hge; omega
    rw [hke]; exact ⟨rfl,rfl⟩
theorem I3 (hn:n≤c.vars.length) (hm:n≤maxLen):ag Tryz.prog 83 [.p (.ref .int (n:Int) 0),.p (.fnAt [(98,[.ref .chart c 0])] 0)] [] (.x (.i (bK (fun k:Nat=>dL (ETy.get .var c.vars k)) 0 n))) []:=by
 refine dg uk Tryz.func83 (.stop zTp1 { n:=16,fr:=[(1,.p (PD.fnAt [(98,[.ref .chart c 0])] 0)),(2,.i 0),(5,.i n),(6,.i 0)],ck:=[] }) fun Γ=>?_
 exact Ii c n Γ hn hm n 0 (by omega) (by omega)
theorem GH (n:Int) (h:n=(c.vars.length:Int)) (hm:c.vars.length≤maxLen):ag Tryz.prog 83 [.p (.ref .int n 0),.p (.fnAt [(98,[.ref .chart c 0])] 0)] [] (.x (.i (bK (fun k:Nat=>dL (ETy.get .var c.vars k)) 0 c.vars.length))) []:=by
 subst h
 exact I3 c _ (ar _) hm
def yo:Cfg:=⟨bk,[eQ9]⟩
theorem vr:ah Tryz.prog yo.tab:=(ah.cons Iw ah.nil)
theorem Hw (hn:n≤c.states.length) (hm:n≤maxLen):∀ (m k:Nat),n - k≤m→k≤n →
 zJ83Tp Γ (Eq2 (.x (.i (bK (fun k:Nat=>cG c (ETy.get .stat c.states k)) k (n - k)))) []) zTp1 ({ n:=16,fr:=[(1,.p (PD.fnAt [(100,[.ref .chart c 0])] 0)),(2,.i 0),(5,.i n),(6,.i ((k:Int)))],ck:=[] }):=by
 intro m
 induction m with
 | zero=>?_
 | succ m ih=>?_
 all_goals
  intro k hmk hk
  refine jg vr Tryz.func83 (.ite (decide ((k:Int)<(n:Int))) (.need (inRg k c.states.length) (.ite (cG c (ETy.get .stat c.states k) != (0:Int)) (.ret (.i (cG c (ETy.get .stat c.states k))) []) (.stop zTp1 { n:=16,fr:=[(1,.p (PD.fnAt [(100,[.ref .chart c 0])] 0)),(2,.i 0),(5,.i n),(6,.i (IntKind.wrap .i64 ((k:Int)+1)))],ck:=[] }))) (.ret (.i 0) [])) ?_
  refine ⟨fun hlt=>?_,fun hge=>?_⟩
  · have hk':k<n:=by have:=of_decide_eq_true hlt; omega
    rw [iX _ hk']
    refine ⟨⟨by omega,by omega⟩,fun hb=>?_,fun hb=>?_⟩
    · rw [if_pos (by exact hb)]; exact ⟨rfl,rfl⟩
    · rw [if_neg (by rw [show _=false from hb]; decide)]
      rw [aZ (aE hk' hm)]
      first | (exfalso; omega) | exact ih (k+1) (by omega) (by omega)
  · have hke:n - k=0:=by have:=of_decide_eq_false hge; omega
    rw [hke]; exact ⟨rfl,rfl⟩
theorem IL (hn:n≤c.states.length) (hm:n≤maxLen):ag Tryz.prog 83 [.p (.ref .int (n:Int) 0),.p (.fnAt [(100,[.ref .chart c 0])] 0)] [] (.x (.i (bK (fun k:Nat=>cG c (ETy.get .stat c.states k)) 0 n))) []:=by
 refine dg vr Tryz.func83 (.stop zTp1 { n:=16,fr:=[(1,.p (PD.fnAt [(100,[.ref .chart c 0])] 0)),(2,.i 0),(5,.i n),(6,.i 0)],ck:=[] }) fun Γ=>?_
 exact Hw c n Γ hn hm n 0 (by omega) (by omega)
theorem Hr (n:Int) (h:n=(c.states.length:Int)) (hm:c.states.length≤maxLen):ag Tryz.prog 83 [.p (.ref .int n 0),.p (.fnAt [(100,[.ref .chart c 0])] 0)] [] (.x (.i (bK (fun k:Nat=>cG c (ETy.get .stat c.states k)) 0 c.states.length))) []:=by
 subst h
 exact IL c _ (ar _) hm
def uU:Cfg:=⟨bk,[y9]⟩
theorem sa:ah Tryz.prog uU.tab:=(ah.cons GT ah.nil)
theorem Dk (hn:n≤c.trans.length) (h0:c.states.length≤maxLen) (h1:c.trans.length≤maxLen) (hm:n≤maxLen):∀ (m k:Nat),n - k≤m→k≤n →
 zJ83Tp Γ (Eq2 (.x (.i (bK (fun k:Nat=>cK c k l (ETy.get .tran c.trans k)) k (n - k)))) []) zTp1 ({ n:=16,fr:=[(1,.p (PD.fnAt [(102,[.ref .chart c 0,.ref .strs l 0])] 0)),(2,.i 0),(5,.i n),(6,.i ((k:Int)))],ck:=[] }):=by
 intro m
 induction m with
 | zero=>?_
 | succ m ih=>?_
 all_goals
  intro k hmk hk
  refine jg sa Tryz.func83 (.ite (decide ((k:Int)<(n:Int))) (.need ((0:Int)≤(k:Int)∧(k:Int)<(c.trans.length:Int)∧c.states.length≤maxLen∧c.trans.length≤maxLen) (.ite (cK c k l (ETy.get .tran c.trans k) != (0:Int)) (.ret (.i (cK c k l (ETy.get .tran c.trans k))) []) (.stop zTp1 { n:=16,fr:=[(1,.p (PD.fnAt [(102,[.ref .chart c 0,.ref .strs l 0])] 0)),(2,.i 0),(5,.i n),(6,.i (IntKind.wrap .i64 ((k:Int)+1)))],ck:=[] }))) (.ret (.i 0) [])) ?_
  refine ⟨fun hlt=>?_,fun hge=>?_⟩
  · have hk':k<n:=by have:=of_decide_eq_true hlt; omega
    rw [iX _ hk']
    refine ⟨⟨by omega,by omega,h0,h1⟩,fun hb=>?_,fun hb=>?_⟩
    · rw [if_pos (by exact hb)]; exact ⟨rfl,rfl⟩
    · rw [if_neg (by rw [show _=false from hb]; decide)]
      rw [aZ (aE hk' hm)]
      first | (exfalso; omega) | exact ih (k+1) (by omega) (by omega)
  · have hke:n - k=0:=by have:=of_decide_eq_false hge; omega
    rw [hke]; exact ⟨rfl,rfl⟩
theorem HK (hn:n≤c.trans.length) (h0:c.states.length≤maxLen) (h1:c.trans.length≤maxLen) (hm:n≤maxLen):ag Tryz.prog 83 [.p (.ref .int (n:Int) 0),.p (.fnAt [(102,[.ref .chart c 0,.ref .strs l 0])] 0)] [] (.x (.i (bK (fun k:Nat=>cK c k l (ETy.get .tran c.trans k)) 0 n))) []:=by
 refine dg sa Tryz.func83 (.stop zTp1 { n:=16,fr:=[(1,.p (PD.fnAt [(102,[.ref .chart c 0,.ref .strs l 0])] 0)),(2,.i 0),(5,.i n),(6,.i 0)],ck:=[] }) fun Γ=>?_
 exact Dk c l n Γ hn h0 h1 hm n 0 (by omega) (by omega)
theorem Fc (n:Int) (h:n=(c.trans.length:Int)) (h0:c.states.length≤maxLen) (h1:c.trans.length≤maxLen) (hm:c.trans.length≤maxLen):ag Tryz.prog 83 [.p (.ref .int n 0),.p (.fnAt [(102,[.ref .chart c 0,.ref .strs l 0])] 0)] [] (.x (.i (bK (fun k:Nat=>cK c k l (ETy.get .tran c.trans k)) 0 c.trans.length))) []:=by
 subst h
 exact HK c l _ (ar _) h0 h1 hm
def eE7:Ent:=(83,fun
 | [.c (.pd (.ref .int n 0)),.c (.pd (.fnAt [(96,[.ref .chart c 0])] 0))],[]=>some (some (n=(c.states.length:Int)∧c.states.length≤maxLen),.x (.c (.pd (.int .i64 (bK (fun k:Nat=>c6 c.states k) 0 c.states.length)))),[])
 | _,_=>none)
theorem II:EntOk Tryz.prog eE7:=entOk fun vs ck=>by
 unfold eE7; dsimp only; split
 · rename_i n c; exact entS fun hp=>HN c n hp.1 hp.2 hp.2
 · exact entN
def eE8:Ent:=(83,fun
 | [.c (.pd (.ref .int n 0)),.c (.pd (.fnAt [(98,[.ref .chart c 0])] 0))],[]=>some (some (n=(c.vars.length:Int)∧c.vars.length≤maxLen),.x (.c (.pd (.int .i64 (bK (fun k:Nat=>dL (ETy.get .var c.vars k)) 0 c.vars.length)))),[])
 | _,_=>none)
theorem ID:EntOk Tryz.prog eE8:=entOk fun vs ck=>by
 unfold eE8; dsimp only; split
 · rename_i n c; exact entS fun hp=>GH c n hp.1 hp.2
 · exact entN
def eE9:Ent:=(83,fun
 | [.c (.pd (.ref .int n 0)),.c (.pd (.fnAt [(100,[.ref .chart c 0])] 0))],[]=>some (some (n=(c.states.length:Int)∧c.states.length≤maxLen),.x (.c (.pd (.int .i64 (bK (fun k:Nat=>cG c (ETy.get .stat c.states k)) 0 c.states.length)))),[])
 | _,_=>none)
theorem Jg:EntOk Tryz.prog eE9:=entOk fun vs ck=>by
 unfold eE9; dsimp only; split
 · rename_i n c; exact entS fun hp=>Hr c n hp.1 hp.2
 · exact entN
def As:Ent:=(83,fun
 | [.c (.pd (.ref .int n 0)),.c (.pd (.fnAt [(102,[.ref .chart c 0,.ref .strs l 0])] 0))],[]=>some (some (n=(c.trans.length:Int)∧c.states.length≤maxLen∧c.trans.length≤maxLen),.x (.c (.pd (.int .i64 (bK (fun k:Nat=>cK c k l (ETy.get .tran c.trans k)) 0 c.trans.length)))),[])
 | _,_=>none)
theorem He:EntOk Tryz.prog As:=entOk fun vs ck=>by
 unfold As; dsimp only; split
 · rename_i n c l; exact entS fun hp=>Fc c l n hp.1 hp.2.1 hp.2.2 hp.2.2
 · exact entN
end Go.Proofs.YtcopfgbbjdefbaaGreatDoor
