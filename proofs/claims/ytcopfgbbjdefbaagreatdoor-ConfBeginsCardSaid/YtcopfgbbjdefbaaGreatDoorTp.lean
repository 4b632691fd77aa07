/- Contracts: valid.Check's questions. Conditions: sizes. Contracts: valid.Check: each's loops. Conditions: sizes. -/
import Derived.Test.YtcopfgbbjdefbaaGreatDoorTm
namespace Go.Proofs.YtcopfgbbjdefbaaGreatDoor
open Go Go.Ev
set_option maxRecDepth 100000
def GA:Cfg:=⟨bb,[nF]⟩
theorem FF:af Tryz.prog GA.tab:=(af.cons yQ af.nil)
variable (c:Chart) (a:List Str) (i:Int) (b l:List Str)
def fg:List Str:=gh [[c.name],c.events,a,b]
theorem IE (h:(fg c a b).length≤1000000):ag Tryz.prog 85 [.p (.ref .chart c 0),.p (.ref .strs a 0),.p (.ref .strs b 0)] [] (.x (.c (.own 0))) [.own 9 .str (fg c a b)]:=by
 refine dg FF Tryz.func85 (.need ((gh [[c.name],c.events,a,b]).length≤1000000) (.ret (.x (.c (.own 0))) [.own 9 .str (gh [[c.name],c.events,a,b])])) fun Γ=>?_
 exact ⟨h,rfl,rfl⟩
def eQ2:Ent:=(85,fun
 | [.c (.pd (.ref .chart c 0)),.c (.pd (.ref .strs a 0)),.c (.pd (.ref .strs b 0))],[]=>some (some ((fg c a b).length≤1000000),.x (.c (.own 0)),[.own 9 .str (fg c a b)])
 | _,_=>none)
theorem I1:EntOk Tryz.prog eQ2:=entOk fun vs ck=>by
 unfold eQ2; dsimp only; split
 · rename_i c a b; exact entS fun hp=>IE c a b hp
 · exact entN
def DF:Cfg:=⟨bb,[iQ]⟩
theorem CY:af Tryz.prog DF.tab:=(af.cons gM af.nil)
theorem Et (s:Str):ag Tryz.prog 91 [.s s] [] (.x (.b (!aX s))) []:=by
 refine dg CY Tryz.func91 (.ret (.p (.bool !aX s)) []) fun Γ=>⟨rfl,rfl⟩
def yE:Ent:=(91,fun
 | [.c (.pd (.str s))],[]=>some (none,.x (.c (.pd (.bool (!aX s)))),[])
 | _,_=>none)
theorem Hn:EntOk Tryz.prog yE:=entOk fun vs ck=>by
 unfold yE; dsimp only; split
 · rename_i s; exact entS fun hp=>Et s
 · exact entN
def AE:Cfg:=⟨bb,[yE]⟩
theorem uO:af Tryz.prog AE.tab:=(af.cons Hn af.nil)
abbrev zTo1:List PI:=[.code [1,0,1,0,0],.inLoop [1,0,1,0,0],.inBlock 0,.code [1,1]]
theorem Eu (Γ:Ctx) (hl:l.length≤maxLen)  : ∀ (n k:Nat),l.length - k≤n→k≤l.length →
 J Tryz.prog 137 (aA Tryz.f137) Γ (Eq2 (.x (.i (aI (fun s:Str=>!aX s) (l.drop k) k))) []) zTo1 ({ n:=19,fr:=[(0,.p (.lst .str l)),(1,.x (.c (.fn (.func 91) [] []))),(4,.i 0),(7,.i l.length),(8,.i k)],ck:=[] }):=by
 intro n
 induction n with
 | zero=>?_
 | succ n ih=>?_
 all_goals
  intro k hn hk
  refine jg uO Tryz.func137 (.ite (decide ((k:Int)<(l.length:Int))) (.need (inRg k l.length) (.ite (!aX (ETy.get .str l k)) (.ret (.i k) []) (.stop zTo1 { n:=19,fr:=[(0,.p (.lst .str l)),(1,.x (.c (.fn (.func 91) [] []))),(4,.i 0),(7,.i l.length),(8,.i (IntKind.wrap .i64 ((k:Int)+1)))],ck:=[] }))) (.ret (.i (-1:Int)) [])) ?_
  refine ⟨fun hlt=>?_,fun hge=>?_⟩
  · have hk':k<l.length:=by have:=of_decide_eq_true hlt; omega
    rw [bO (t:=.str) (l:=l) hk']
    refine ⟨by omega,?_⟩
    generalize ETy.get .str l k=v
    refine ⟨fun hb=>⟨?_,rfl⟩,fun hb=>?_⟩
    · simp only [aI,hb,cond_true]
    · simp only [aI,hb,cond_false]; (rw [a6 (aE hk' hl)]; first | (exfalso; omega) | exact ih (k+1) (by omega) (by omega))
  · rw [bX (l:=l) (by have:=of_decide_eq_false hge; omega)]
    exact ⟨rfl,rfl⟩
theorem Fs:ag Tryz.prog 137 [.l .str (l),SX.c (SC.fn (Fn.func 91) [] [])] [] (.x (.i (aI (fun s:Str=>!aX s) l 0))) []:=by
 refine dg uO Tryz.func137 (.stop zTo1 { n:=19,fr:=[(0,.p (.lst .str l)),(1,.x (.c (.fn (.func 91) [] []))),(4,.i 0),(7,.i l.length),(8,.i 0)],ck:=[] }) fun Γ=>?_
 exact J.len 0 rfl fun hl=>Eu l Γ hl l.length 0 (by omega) (by omega)
def A2:Ent:=(137,fun
 | [.c (.pd (.lst .str l)),.c (.fn (.func 91) [] [])],[]=>some (none,.x (.c (.pd (.int .i64 (aI (fun s:Str=>!aX s) l 0)))),[])
 | _,_=>none)
theorem HO:EntOk Tryz.prog A2:=entOk fun vs ck=>by
 unfold A2; dsimp only; split
 · rename_i l; exact entS fun hp=>Fs l
 · exact entN
def GC:Cfg:=⟨bb,[A2]⟩
theorem Fg:af Tryz.prog GC.tab:=(af.cons HO af.nil)
theorem HK:ag Tryz.prog 90 [.l .str l,.c (.fn (.func 91) [] [])] [] (.x (.b (l.any fun s:Str=>!aX s))) []:=by
 refine dg Fg Tryz.func90 (.ret (.p (.bool (decide (aI (fun s=>!aX s) l (0:Int)≥0)))) []) fun Γ=>⟨?_,rfl⟩
 rw [kK _ _ _ (by omega)]
def eCf:Ent:=(90,fun
 | [.c (.pd (.lst .str l)),.c (.fn (.func 91) [] [])],[]=>some (none,.x (.c (.pd (.bool (l.any fun s:Str=>!aX s)))),[])
 | _,_=>none)
theorem Jh:EntOk Tryz.prog eCf:=entOk fun vs ck=>by
 unfold eCf; dsimp only; split
 · rename_i l; exact entS fun hp=>HK l
 · exact entN
def GE:Cfg:=⟨bb,[eQ2,eCf,jz]⟩
theorem FV:af Tryz.prog GE.tab:=(af.cons I1 (af.cons Jh (af.cons iK af.nil)))
theorem Hc (h:(fg c a b).length≤1000000):ag Tryz.prog 89 [.p (.fnAt [(85,[.ref .chart c 0,.ref .strs a 0,.ref .strs b 0])] 0)] [] (.x (.i (bM (!(fg c a b).any fun s:Str=>!aX s) 2))) []:=by
 refine dg FV Tryz.func89 (.need ((fg c a b).length≤1000000) (.ret (.i (bM (!List.any (fg c a b) fun s=>!aX s) (2:Int))) [])) fun Γ=>?_
 exact ⟨h,rfl,rfl⟩
def eQ4:Ent:=(89,fun
 | [.c (.pd (.fnAt [(85,[.ref .chart c 0,.ref .strs a 0,.ref .strs b 0])] 0))],[]=>some (some ((fg c a b).length≤1000000),.x (.c (.pd (.int .i64 (bM (!(fg c a b).any fun s:Str=>!aX s) 2)))),[])
 | _,_=>none)
theorem I9:EntOk Tryz.prog eQ4:=entOk fun vs ck=>by
 unfold eQ4; dsimp only; split
 · rename_i c a b; exact entS fun hp=>Hc c a b hp
 · exact entN
def gi:Bool:=decide ((c.events.length:Int)≤12)&&decide ((c.vars.length:Int)≤8)&&decide ((c.states.length:Int)≤40)&&decide ((c.trans.length:Int)≤48)
def ij:Bool:=fO c.events&&fO a&&fO b
def Gv:Cfg:=⟨bb,[jz]⟩
theorem Gg:af Tryz.prog Gv.tab:=(af.cons iK af.nil)
theorem G0:ag Tryz.prog 87 [.p (.ref .chart c 0)] [] (.x (.i (bM (gi c) 4))) []:=by
 refine dg Gg Tryz.func87 (.ret (.i (bM (decide ((c.events.length:Int)≤12)&&decide ((c.vars.length:Int)≤8)&&decide ((c.states.length:Int)≤40)&&decide ((c.trans.length:Int)≤48)) (4:Int))) []) fun Γ=>⟨rfl,rfl⟩
def eQ3:Ent:=(87,fun
 | [.c (.pd (.ref .chart c 0))],[]=>some (none,.x (.c (.pd (.int .i64 (bM (gi c) 4)))),[])
 | _,_=>none)
theorem Jk:EntOk Tryz.prog eQ3:=entOk fun vs ck=>by
 unfold eQ3; dsimp only; split
 · rename_i c; exact entS fun hp=>G0 c
 · exact entN
def Gn:Cfg:=⟨bb,[tw,jz]⟩
theorem Fi:af Tryz.prog Gn.tab:=(af.cons F7 (af.cons iK af.nil))
theorem Ih (h:c.events.length≤1000000∧a.length≤1000000∧b.length≤1000000):ag Tryz.prog 92 [.p (.ref .chart c 0),.p (.ref .strs a 0),.p (.ref .strs b 0)] [] (.x (.i (bM (ij c a b) 3))) []:=by
 refine dg Fi Tryz.func92 (.need (c.events.length≤1000000) (.need (fO c.events=true→a.length≤1000000) (.need ((fO c.events&&fO a)=true→b.length≤1000000) (.ret (.i (bM (fO c.events&&fO a&&fO b) (3:Int))) [])))) fun Γ=>?_
 exact ⟨h.1,fun _=>h.2.1,fun _=>h.2.2,rfl,rfl⟩
def eQ5:Ent:=(92,fun
 | [.c (.pd (.ref .chart c 0)),.c (.pd (.ref .strs a 0)),.c (.pd (.ref .strs b 0))],[]=>some (some (c.events.length≤1000000∧a.length≤1000000∧b.length≤1000000),.x (.c (.pd (.int .i64 (bM (ij c a b) 3)))),[])
 | _,_=>none)
theorem IY:EntOk Tryz.prog eQ5:=entOk fun vs ck=>by
 unfold eQ5; dsimp only; split
 · rename_i c a b; exact entS fun hp=>Ih c a b hp
 · exact entN
def Gk:Cfg:=⟨bb,[k6,jz]⟩
theorem Ey:af Tryz.prog Gk.tab:=(af.cons qw (af.cons iK af.nil))
theorem Ha (h:c.states.length≤maxLen):ag Tryz.prog 94 [.p (.ref .chart c 0)] [] (.x (.i (bM (bS c.states) 9))) []:=by
 refine dg Ey Tryz.func94 (.need (c.states.length≤maxLen) (.ret (.i (bM (bS c.states) (9:Int))) [])) fun Γ=>?_
 exact ⟨h,rfl,rfl⟩
def eQ6:Ent:=(94,fun
 | [.c (.pd (.ref .chart c 0))],[]=>some (some (c.states.length≤maxLen),.x (.c (.pd (.int .i64 (bM (bS c.states) 9)))),[])
 | _,_=>none)
theorem Jl:EntOk Tryz.prog eQ6:=entOk fun vs ck=>by
 unfold eQ6; dsimp only; split
 · rename_i c; exact entS fun hp=>Ha c hp
 · exact entN
def pz:Cfg:=⟨bb,[qo,tc,tA,Ab]⟩
theorem l1:af Tryz.prog pz.tab:=(af.cons B7 (af.cons D2 (af.cons FM (af.cons HC af.nil))))
theorem Hd (h:0≤i∧i<(c.states.length:Int)∧c.states.length≤maxLen):ag Tryz.prog 96 [.i i,.p (.ref .chart c 0)] [] (.x (.i (c8 c.states i.toNat))) []:=by
 refine dg l1 Tryz.func96 (.need ((0:Int)≤i∧i<(c.states.length:Int)∧c.states.length≤maxLen) (.ret (.i (c8 c.states (Int.toNat i))) [])) fun Γ=>⟨h,rfl,rfl⟩
def eQ7:Ent:=(96,fun
 | [.c (.pd (.int .i64 i)),.c (.pd (.ref .chart c 0))],[]=>some (some (0≤i∧i<(c.states.length:Int)∧c.states.length≤maxLen),.x (.c (.pd (.int .i64 (c8 c.states i.toNat)))),[])
 | _,_=>none)
theorem I5:EntOk Tryz.prog eQ7:=entOk fun vs ck=>by
 unfold eQ7; dsimp only; split
 · rename_i i c; exact entS fun hp=>Hd c i hp
 · exact entN
theorem H7 (h:0≤i∧i<(c.vars.length:Int)):ag Tryz.prog 98 [.i i,.p (.ref .chart c 0)] [] (.x (.i (dQ (ETy.get .var c.vars i.toNat)))) []:=by
 refine dg l1 Tryz.func98 (.need ((0:Int)≤i∧i<(c.vars.length:Int)) (.ret (.i (dQ (ETy.get .var c.vars (Int.toNat i)))) [])) fun Γ=>⟨h,rfl,rfl⟩
def eQ8:Ent:=(98,fun
 | [.c (.pd (.int .i64 i)),.c (.pd (.ref .chart c 0))],[]=>some (some (0≤i∧i<(c.vars.length:Int)),.x (.c (.pd (.int .i64 (dQ (ETy.get .var c.vars i.toNat))))),[])
 | _,_=>none)
theorem Jo:EntOk Tryz.prog eQ8:=entOk fun vs ck=>by
 unfold eQ8; dsimp only; split
 · rename_i i c; exact entS fun hp=>H7 c i hp
 · exact entN
theorem G1 (h:0≤i∧i<(c.states.length:Int)):ag Tryz.prog 100 [.i i,.p (.ref .chart c 0)] [] (.x (.i (cI c (ETy.get .stat c.states i.toNat)))) []:=by
 refine dg l1 Tryz.func100 (.need ((0:Int)≤i∧i<(c.states.length:Int)) (.ret (.i (cI c (ETy.get .stat c.states (Int.toNat i)))) [])) fun Γ=>⟨h,rfl,rfl⟩
def eQ9:Ent:=(100,fun
 | [.c (.pd (.int .i64 i)),.c (.pd (.ref .chart c 0))],[]=>some (some (0≤i∧i<(c.states.length:Int)),.x (.c (.pd (.int .i64 (cI c (ETy.get .stat c.states i.toNat))))),[])
 | _,_=>none)
theorem Jb:EntOk Tryz.prog eQ9:=entOk fun vs ck=>by
 unfold eQ9; dsimp only; split
 · rename_i i c; exact entS fun hp=>G1 c i hp
 · exact entN
theorem DL (h:0≤i∧i<(c.trans.length:Int)∧c.states.length≤maxLen∧c.trans.length≤maxLen):ag Tryz.prog 102 [.i i,.p (.ref .chart c 0),.p (.ref .strs l 0)] [] (.x (.i (cM c i.toNat l (ETy.get .tran c.trans i.toNat)))) []:=by
 refine dg l1 Tryz.func102 (.need ((0:Int)≤i∧i<(c.trans.length:Int)∧c.states.length≤maxLen∧c.trans.length≤maxLen) (.ret (.i (cM c (Int.toNat i) l (ETy.get .tran c.trans (Int.toNat i)))) [])) fun Γ=>⟨h,rfl,rfl⟩
def Az:Ent:=(102,fun
 | [.c (.pd (.int .i64 i)),.c (.pd (.ref .chart c 0)),.c (.pd (.ref .strs l 0))],[]=>some (some (0≤i∧i<(c.trans.length:Int)∧c.states.length≤maxLen∧c.trans.length≤maxLen),.x (.c (.pd (.int .i64 (cM c i.toNat l (ETy.get .tran c.trans i.toNat))))),[])
 | _,_=>none)
theorem IC:EntOk Tryz.prog Az:=entOk fun vs ck=>by
 unfold Az; dsimp only; split
 · rename_i i c l; exact entS fun hp=>DL c i l hp
 · exact entN
end Go.Proofs.YtcopfgbbjdefbaaGreatDoor
namespace Go.Proofs.YtcopfgbbjdefbaaGreatDoor
open Go Go.Ev
set_option maxRecDepth 100000
abbrev zJ83Tp:=J Tryz.prog 83 (aA Tryz.f83)
def bJ (f:Nat→Int):Nat→Nat→Int
 | _,0=>0
 | k,m+1=>if (f k != 0)=true then f k else bJ f (k+1) m
theorem iX (f:Nat→Int) {k n:Nat} (h:k<n):bJ f k (n - k)=if (f k != 0)=true then f k else bJ f (k+1) (n - (k+1)):=by
 obtain ⟨m,hm⟩:∃ m,n - k=m+1:=⟨n - k - 1,by omega⟩
 rw [hm,show n - (k+1)=m by omega]; rfl
def A6:Cfg:=⟨bb,[eQ7]⟩
theorem uP:af Tryz.prog A6.tab:=(af.cons I5 af.nil)
abbrev zTp1:List PI:=[.code [1,0,1,0,0],.inLoop [1,0,1,0,0],.inBlock 0,.code [1,1]]
variable (c:Chart) (l:List Str) (n:Nat) (Γ:Ctx)
theorem Ir (hn:n≤c.states.length) (h0:c.states.length≤maxLen) (hm:n≤maxLen):∀ (m k:Nat),n - k≤m→k≤n →
 zJ83Tp Γ (Eq2 (.x (.i (bJ (fun k:Nat=>c8 c.states k) k (n - k)))) []) zTp1 ({ n:=16,fr:=[(1,.p (PD.fnAt [(96,[.ref .chart c 0])] 0)),(2,.i 0),(5,.i n),(6,.i ((k:Int)))],ck:=[] }):=by
 intro m
 induction m with
 | zero=>?_
 | succ m ih=>?_
 all_goals
  intro k hmk hk
  refine jg uP Tryz.func83 (.ite (decide ((k:Int)<(n:Int))) (.need ((0:Int)≤(k:Int)∧(k:Int)<(c.states.length:Int)∧c.states.length≤maxLen) (.ite (c8 c.states k != (0:Int)) (.ret (.i (c8 c.states k)) []) (.stop zTp1 { n:=16,fr:=[(1,.p (PD.fnAt [(96,[.ref .chart c 0])] 0)),(2,.i 0),(5,.i n),(6,.i (IntKind.wrap .i64 ((k:Int)+1)))],ck:=[] }))) (.ret (.i 0) [])) ?_
  refine ⟨fun hlt=>?_,fun hge=>?_⟩
  · have hk':k<n:=by have:=of_decide_eq_true hlt; omega
    rw [iX _ hk']
    refine ⟨⟨by omega,by omega,h0⟩,fun hb=>?_,fun hb=>?_⟩
    · rw [if_pos (by exact hb)]; exact ⟨rfl,rfl⟩
    · rw [if_neg (by rw [show _=false from hb]; decide)]
      rw [a6 (aE hk' hm)]
      first | (exfalso; omega) | exact ih (k+1) (by omega) (by omega)
  · have hke:n - k=0:=by have:=of_decide_eq_false hge; omega
    rw [hke]; exact ⟨rfl,rfl⟩
theorem Jv (hn:n≤c.states.length) (h0:c.states.length≤maxLen) (hm:n≤maxLen):ag Tryz.prog 83 [.p (.ref .int (n:Int) 0),.p (.fnAt [(96,[.ref .chart c 0])] 0)] [] (.x (.i (bJ (fun k:Nat=>c8 c.states k) 0 n))) []:=by
 refine dg uP Tryz.func83 (.stop zTp1 { n:=16,fr:=[(1,.p (PD.fnAt [(96,[.ref .chart c 0])] 0)),(2,.i 0),(5,.i n),(6,.i 0)],ck:=[] }) fun Γ=>?_
 exact Ir c n Γ hn h0 hm n 0 (by omega) (by omega)
theorem GV (n:Int) (h:n=(c.states.length:Int)) (h0:c.states.length≤maxLen) (hm:c.states.length≤maxLen):ag Tryz.prog 83 [.p (.ref .int n 0),.p (.fnAt [(96,[.ref .chart c 0])] 0)] [] (.x (.i (bJ (fun k:Nat=>c8 c.states k) 0 c.states.length))) []:=by
 subst h
 exact Jv c _ (aq _) h0 hm
def y9:Cfg:=⟨bb,[eQ8]⟩
theorem vl:af Tryz.prog y9.tab:=(af.cons Jo af.nil)
theorem G9 (hn:n≤c.vars.length) (hm:n≤maxLen):∀ (m k:Nat),n - k≤m→k≤n →
 zJ83Tp Γ (Eq2 (.x (.i (bJ (fun k:Nat=>dQ (ETy.get .var c.vars k)) k (n - k)))) []) zTp1 ({ n:=16,fr:=[(1,.p (PD.fnAt [(98,[.ref .chart c 0])] 0)),(2,.i 0),(5,.i n),(6,.i ((k:Int)))],ck:=[] }):=by
 intro m
 induction m with
 | zero=>?_
 | succ m ih=>?_
 all_goals
  intro k hmk hk
  refine jg vl Tryz.func83 (.ite (decide ((k:Int)<(n:Int))) (.need (inRg k c.vars.length) (.ite (dQ (ETy.get .var c.vars k) != (0:Int)) (.ret (.i (dQ (ETy.get .var c.vars k))) []) (.stop zTp1 { n:=16,fr:=[(1,.p (PD.fnAt [(98,[.ref .chart c 0])] 0)),(2,.i 0),(5,.i n),(6,.i (IntKind.wrap .i64 ((k:Int)+1)))],ck:=[] }))) (.ret (.i 0) [])) ?_
  refine ⟨fun hlt=>?_,fun hge=>?_⟩
  · have hk':k<n:=by have:=of_decide_eq_true hlt; omega
    rw [iX _ hk']
    refine ⟨⟨by omega,by omega⟩,fun hb=>?_,fun hb=>?_⟩
    · rw [if_pos (by exact hb)]; exact ⟨rfl,rfl⟩
    · rw [if_neg (by rw [show _=false from hb]; decide)]
      rw [a6 (aE hk' hm)]
      first | (exfalso; omega) | exact ih (k+1) (by omega) (by omega)
  · have hke:n - k=0:=by have:=of_decide_eq_false hge; omega
    rw [hke]; exact ⟨rfl,rfl⟩
theorem IR (hn:n≤c.vars.length) (hm:n≤maxLen):ag Tryz.prog 83 [.p (.ref .int (n:Int) 0),.p (.fnAt [(98,[.ref .chart c 0])] 0)] [] (.x (.i (bJ (fun k:Nat=>dQ (ETy.get .var c.vars k)) 0 n))) []:=by
 refine dg vl Tryz.func83 (.stop zTp1 { n:=16,fr:=[(1,.p (PD.fnAt [(98,[.ref .chart c 0])] 0)),(2,.i 0),(5,.i n),(6,.i 0)],ck:=[] }) fun Γ=>?_
 exact G9 c n Γ hn hm n 0 (by omega) (by omega)
theorem H5 (n:Int) (h:n=(c.vars.length:Int)) (hm:c.vars.length≤maxLen):ag Tryz.prog 83 [.p (.ref .int n 0),.p (.fnAt [(98,[.ref .chart c 0])] 0)] [] (.x (.i (bJ (fun k:Nat=>dQ (ETy.get .var c.vars k)) 0 c.vars.length))) []:=by
 subst h
 exact IR c _ (aq _) hm
def Ad:Cfg:=⟨bb,[eQ9]⟩
theorem ui:af Tryz.prog Ad.tab:=(af.cons Jb af.nil)
theorem IA (hn:n≤c.states.length) (hm:n≤maxLen):∀ (m k:Nat),n - k≤m→k≤n →
 zJ83Tp Γ (Eq2 (.x (.i (bJ (fun k:Nat=>cI c (ETy.get .stat c.states k)) k (n - k)))) []) zTp1 ({ n:=16,fr:=[(1,.p (PD.fnAt [(100,[.ref .chart c 0])] 0)),(2,.i 0),(5,.i n),(6,.i ((k:Int)))],ck:=[] }):=by
 intro m
 induction m with
 | zero=>?_
 | succ m ih=>?_
 all_goals
  intro k hmk hk
  refine jg ui Tryz.func83 (.ite (decide ((k:Int)<(n:Int))) (.need (inRg k c.states.length) (.ite (cI c (ETy.get .stat c.states k) != (0:Int)) (.ret (.i (cI c (ETy.get .stat c.states k))) []) (.stop zTp1 { n:=16,fr:=[(1,.p (PD.fnAt [(100,[.ref .chart c 0])] 0)),(2,.i 0),(5,.i n),(6,.i (IntKind.wrap .i64 ((k:Int)+1)))],ck:=[] }))) (.ret (.i 0) [])) ?_
  refine ⟨fun hlt=>?_,fun hge=>?_⟩
  · have hk':k<n:=by have:=of_decide_eq_true hlt; omega
    rw [iX _ hk']
    refine ⟨⟨by omega,by omega⟩,fun hb=>?_,fun hb=>?_⟩
    · rw [if_pos (by exact hb)]; exact ⟨rfl,rfl⟩
    · rw [if_neg (by rw [show _=false from hb]; decide)]
      rw [a6 (aE hk' hm)]
      first | (exfalso; omega) | exact ih (k+1) (by omega) (by omega)
  · have hke:n - k=0:=by have:=of_decide_eq_false hge; omega
    rw [hke]; exact ⟨rfl,rfl⟩
theorem Jq (hn:n≤c.states.length) (hm:n≤maxLen):ag Tryz.prog 83 [.p (.ref .int (n:Int) 0),.p (.fnAt [(100,[.ref .chart c 0])] 0)] [] (.x (.i (bJ (fun k:Nat=>cI c (ETy.get .stat c.states k)) 0 n))) []:=by
 refine dg ui Tryz.func83 (.stop zTp1 { n:=16,fr:=[(1,.p (PD.fnAt [(100,[.ref .chart c 0])] 0)),(2,.i 0),(5,.i n),(6,.i 0)],ck:=[] }) fun Γ=>?_
 exact IA c n Γ hn hm n 0 (by omega) (by omega)
theorem Ie (n:Int) (h:n=(c.states.length:Int)) (hm:c.states.length≤maxLen):ag Tryz.prog 83 [.p (.ref .int n 0),.p (.fnAt [(100,[.ref .chart c 0])] 0)] [] (.x (.i (bJ (fun k:Nat=>cI c (ETy.get .stat c.states k)) 0 c.states.length))) []:=by
 subst h
 exact Jq c _ (aq _) hm
def um:Cfg:=⟨bb,[Az]⟩
theorem r9:af Tryz.prog um.tab:=(af.cons IC af.nil)
theorem FW (hn:n≤c.trans.length) (h0:c.states.length≤maxLen) (h1:c.trans.length≤maxLen) (hm:n≤maxLen):∀ (m k:Nat),n - k≤m→k≤n →
 zJ83Tp Γ (Eq2 (.x (.i (bJ (fun k:Nat=>cM c k l (ETy.get .tran c.trans k)) k (n - k)))) []) zTp1 ({ n:=16,fr:=[(1,.p (PD.fnAt [(102,[.ref .chart c 0,.ref .strs l 0])] 0)),(2,.i 0),(5,.i n),(6,.i ((k:Int)))],ck:=[] }):=by
 intro m
 induction m with
 | zero=>?_
 | succ m ih=>?_
 all_goals
  intro k hmk hk
  refine jg r9 Tryz.func83 (.ite (decide ((k:Int)<(n:Int))) (.need ((0:Int)≤(k:Int)∧(k:Int)<(c.trans.length:Int)∧c.states.length≤maxLen∧c.trans.length≤maxLen) (.ite (cM c k l (ETy.get .tran c.trans k) != (0:Int)) (.ret (.i (cM c k l (ETy.get .tran c.trans k))) []) (.stop zTp1 { n:=16,fr:=[(1,.p (PD.fnAt [(102,[.ref .chart c 0,.ref .strs l 0])] 0)),(2,.i 0),(5,.i n),(6,.i (IntKind.wrap .i64 ((k:Int)+1)))],ck:=[] }))) (.ret (.i 0) [])) ?_
  refine ⟨fun hlt=>?_,fun hge=>?_⟩
  · have hk':k<n:=by have:=of_decide_eq_true hlt; omega
    rw [iX _ hk']
    refine ⟨⟨by omega,by omega,h0,h1⟩,fun hb=>?_,fun hb=>?_⟩
    · rw [if_pos (by exact hb)]; exact ⟨rfl,rfl⟩
    · rw [if_neg (by rw [show _=false from hb]; decide)]
      rw [a6 (aE hk' hm)]
      first | (exfalso; omega) | exact ih (k+1) (by omega) (by omega)
  · have hke:n - k=0:=by have:=of_decide_eq_false hge; omega
    rw [hke]; exact ⟨rfl,rfl⟩
theorem Hx (hn:n≤c.trans.length) (h0:c.states.length≤maxLen) (h1:c.trans.length≤maxLen) (hm:n≤maxLen):ag Tryz.prog 83 [.p (.ref .int (n:Int) 0),.p (.fnAt [(102,[.ref .chart c 0,.ref .strs l 0])] 0)] [] (.x (.i (bJ (fun k:Nat=>cM c k l (ETy.get .tran c.trans k)) 0 n))) []:=by
 refine dg r9 Tryz.func83 (.stop zTp1 { n:=16,fr:=[(1,.p (PD.fnAt [(102,[.ref .chart c 0,.ref .strs l 0])] 0)),(2,.i 0),(5,.i n),(6,.i 0)],ck:=[] }) fun Γ=>?_
 exact FW c l n Γ hn h0 h1 hm n 0 (by omega) (by omega)
theorem D3 (n:Int) (h:n=(c.trans.length:Int)) (h0:c.states.length≤maxLen) (h1:c.trans.length≤maxLen) (hm:c.trans.length≤maxLen):ag Tryz.prog 83 [.p (.ref .int n 0),.p (.fnAt [(102,[.ref .chart c 0,.ref .strs l 0])] 0)] [] (.x (.i (bJ (fun k:Nat=>cM c k l (ETy.get .tran c.trans k)) 0 c.trans.length))) []:=by
 subst h
 exact Hx c l _ (aq _) h0 h1 hm
def eE7:Ent:=(83,fun
 | [.c (.pd (.ref .int n 0)),.c (.pd (.fnAt [(96,[.ref .chart c 0])] 0))],[]=>some (some (n=(c.states.length:Int)∧c.states.length≤maxLen),.x (.c (.pd (.int .i64 (bJ (fun k:Nat=>c8 c.states k) 0 c.states.length)))),[])
 | _,_=>none)
theorem IU:EntOk Tryz.prog eE7:=entOk fun vs ck=>by
 unfold eE7; dsimp only; split
 · rename_i n c; exact entS fun hp=>GV c n hp.1 hp.2 hp.2
 · exact entN
def eE8:Ent:=(83,fun
 | [.c (.pd (.ref .int n 0)),.c (.pd (.fnAt [(98,[.ref .chart c 0])] 0))],[]=>some (some (n=(c.vars.length:Int)∧c.vars.length≤maxLen),.x (.c (.pd (.int .i64 (bJ (fun k:Nat=>dQ (ETy.get .var c.vars k)) 0 c.vars.length)))),[])
 | _,_=>none)
theorem I6:EntOk Tryz.prog eE8:=entOk fun vs ck=>by
 unfold eE8; dsimp only; split
 · rename_i n c; exact entS fun hp=>H5 c n hp.1 hp.2
 · exact entN
def eE9:Ent:=(83,fun
 | [.c (.pd (.ref .int n 0)),.c (.pd (.fnAt [(100,[.ref .chart c 0])] 0))],[]=>some (some (n=(c.states.length:Int)∧c.states.length≤maxLen),.x (.c (.pd (.int .i64 (bJ (fun k:Nat=>cI c (ETy.get .stat c.states k)) 0 c.states.length)))),[])
 | _,_=>none)
theorem Jt:EntOk Tryz.prog eE9:=entOk fun vs ck=>by
 unfold eE9; dsimp only; split
 · rename_i n c; exact entS fun hp=>Ie c n hp.1 hp.2
 · exact entN
def A9:Ent:=(83,fun
 | [.c (.pd (.ref .int n 0)),.c (.pd (.fnAt [(102,[.ref .chart c 0,.ref .strs l 0])] 0))],[]=>some (some (n=(c.trans.length:Int)∧c.states.length≤maxLen∧c.trans.length≤maxLen),.x (.c (.pd (.int .i64 (bJ (fun k:Nat=>cM c k l (ETy.get .tran c.trans k)) 0 c.trans.length)))),[])
 | _,_=>none)
theorem GX:EntOk Tryz.prog A9:=entOk fun vs ck=>by
 unfold A9; dsimp only; split
 · rename_i n c l; exact entS fun hp=>D3 c l n hp.1 hp.2.1 hp.2.2 hp.2.2
 · exact entN
end Go.Proofs.YtcopfgbbjdefbaaGreatDoor
