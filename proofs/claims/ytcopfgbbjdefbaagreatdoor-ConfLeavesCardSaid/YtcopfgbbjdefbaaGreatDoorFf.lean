/- Contracts: where the document's operands begin; its searches, its kinds of leaves. Conditions: none. Contracts: the document's kinds. Conditions: none. -/
import Derived.Test.YtcopfgbbjdefbaaGreatDoorFd
namespace Go.Proofs.YtcopfgbbjdefbaaGreatDoor
open Go Go.Ev
set_option maxRecDepth 100000
abbrev zJ199Fe:=J Tryz.prog 199 (aw Tryz.f199)
variable (vs:List Var) (s:Str) (l:List Cell) (c:Cell) (Γ:Ctx)
theorem IF:bk c≤2:=by
 unfold bk cH
 simp only [cond_eq_ite]
 repeat' split
 all_goals omega
abbrev zFe2:List PI:=[.code [1,1,1,0,0],.inLoop [1,1,1,0,0],.inBlock 0]
theorem mX (hl:l.length≤32) {e:Nat} (he:e<l.length) (m:Int) (h1:1≤m) (h2:m≤100) {Q:Out}
 (hw:0≤bk l[e]) (hend:m - 1+bk l[e]=0→Q (.x (.i (e:Int))) [])
 (hgo:m - 1+bk l[e]≠0→zJ199Fe Γ Q zFe2 ({ n:=21,fr:=[(0,.p (.lst .cell l)),(4,.i 0),(5,.i (m - 1+bk l[e])),(6,.i ((e:Int) - 1))],ck:=[] })) :
 zJ199Fe Γ Q zFe2 ({ n:=21,fr:=[(0,.p (.lst .cell l)),(4,.i 0),(5,.i m),(6,.i ((e:Int)))],ck:=[] }):=by
 have hle:=IF l[e]
 have hg:ETy.get .cell l e=l[e]:=ETy.get_eq (t:=.cell) (List.getElem?_eq_getElem he)
 refine jg n1 Tryz.func199 (let x1:=(IntKind.wrap .i64 (m - (1:Int))+cH (Cell.op (ETy.get .cell l e)) (Cell.a (ETy.get .cell l e)) (Cell.name (ETy.get .cell l e))); .need (inRg e l.length) (.ite (IntKind.wrap .i64 x1==(0:Int)) (.ret (.i e) []) (.stop zFe2 { n:=21,fr:=[(0,.p (.lst .cell l)),(4,.i 0),(5,.i (IntKind.wrap .i64 x1)),(6,.i (IntKind.wrap .i64 ((e:Int) - 1)))],ck:=[] }))) ?_
 conv=>zeta
 rw [hg]
 generalize l[e]=c at *
 refine ⟨⟨by omega,by omega⟩,?_⟩
 have e1:IntKind.wrap IntKind.i64 (IntKind.wrap IntKind.i64 (m - 1)+bk c)=m - 1+bk c:=by
  rw [cv (n:=m - 1) (by omega) (by omega),cv (by omega) (by omega)]
 have e2:IntKind.wrap IntKind.i64 ((e:Int) - 1)=(e:Int) - 1:=cv (by omega) (by omega)
 refine ⟨fun h=>?_,fun h=>?_⟩
 · have h':(IntKind.wrap IntKind.i64 (IntKind.wrap IntKind.i64 (m - 1)+bk c)==0)=true:=h
   rw [e1] at h'
   exact hend (by simpa using h')
 · have h':(IntKind.wrap IntKind.i64 (IntKind.wrap IntKind.i64 (m - 1)+bk c)==0)=false:=h
   rw [e1] at h'
   show zJ199Fe Γ Q zFe2 ({ n:=21,fr:=[(0,.p (.lst .cell l)),(4,.i 0),(5,.i (IntKind.wrap .i64 (IntKind.wrap .i64 (m - 1)+bk c))),(6,.i (IntKind.wrap .i64 ((e:Int) - 1)))],ck:=[] })
   rw [e1,e2]
   exact hgo (by simpa using h')
theorem mT (l:List Cell) (Γ:Ctx) (hl:l.length≤32) {Q:Out} :
 ∀ (t:Tm),t.ok→∀ (pre post:List Cell) (m:Int),l=pre++t.flat++post→1≤m→m+(t.flat.length:Int)≤100→(m=1→Q (.x (.i (pre.length:Int))) []) →
  (m≠1→zJ199Fe Γ Q zFe2 ({ n:=21,fr:=[(0,.p (.lst .cell l)),(4,.i 0),(5,.i (m - 1)),(6,.i ((pre.length:Int) - 1))],ck:=[] })) →
  zJ199Fe Γ Q zFe2 ({ n:=21,fr:=[(0,.p (.lst .cell l)),(4,.i 0),(5,.i m),(6,.i (((pre.length:Int)+t.flat.length - 1)))],ck:=[] })
 | .leaf c,h,pre,post,m,hq,h1,h2,hend,hgo=>by
   have he:pre.length<l.length:=by rw [hq]; simp [Tm.flat]
   have hc:l[pre.length]=c:=by
    have:l[pre.length]?=some c:=by rw [hq]; simp [Tm.flat]
    rw [List.getElem?_eq_getElem he] at this; simpa using this
   have hw:bk c=0:=h
   have e1:(pre.length:Int)+((Tm.leaf c).flat.length:Int) - 1=(pre.length:Int):=by simp [Tm.flat]
   rw [e1]
   refine mX l Γ hl he m h1 (by omega) (by rw [hc,hw]; exact Int.le_refl _) (fun h0=>hend (by rw [hc,hw] at h0; omega)) (fun h0=>?_)
   rw [hc,hw] at h0 ⊢
   have e2:m - 1+0=m - 1:=by omega
   rw [e2]
   exact hgo (by omega)
 | .un c t,⟨hw,ht⟩,pre,post,m,hq,h1,h2,hend,hgo=>by
   simp only [Tm.flat,aq,aE,bH] at h2 ⊢
   have hq2:l=pre++t.flat++([c]++post):=by rw [hq]; simp [Tm.flat]
   have he:pre.length+t.flat.length<l.length:=by rw [hq2]; simp
   have hc:l[pre.length+t.flat.length]=c:=by
    have:l[pre.length+t.flat.length]?=some c:=by rw [hq2,List.getElem?_append_right (by simp)]; simp
    rw [List.getElem?_eq_getElem he] at this; simpa using this
   have e1:(pre.length:Int)+((t.flat.length+(0+1):Nat):Int) - 1=((pre.length+t.flat.length:Nat):Int):=by omega
   rw [e1]
   have htp:=t.flat_pos
   refine mX l Γ hl he m h1 (by omega) (by rw [hc,hw]; decide) (fun h0=>absurd h0 (by rw [hc,hw]; omega)) (fun _=>?_)
   rw [hc,hw]
   have e2:m - 1+1=m:=by omega
   have e3:((pre.length+t.flat.length:Nat):Int) - 1=(pre.length:Int)+t.flat.length - 1:=by omega
   rw [e2,e3]
   exact mT l Γ hl t ht pre ([c]++post) m hq2 h1 (by omega) hend hgo
 | .bin c t u,⟨hw,ht,hu⟩,pre,post,m,hq,h1,h2,hend,hgo=>by
   simp only [Tm.flat,aq,aE,bH] at h2 ⊢
   have hq1:l=pre++t.flat++(u.flat++[c]++post):=by rw [hq]; simp [Tm.flat]
   have hq2:l=(pre++t.flat)++u.flat++([c]++post):=by rw [hq]; simp [Tm.flat]
   have he:pre.length+t.flat.length+u.flat.length<l.length:=by rw [hq2]; simp; omega
   have hc:l[pre.length+t.flat.length+u.flat.length]=c:=by
    have hx:pre.length+t.flat.length+u.flat.length=(pre++t.flat++u.flat).length:=by simp [ee]
    have:l[pre.length+t.flat.length+u.flat.length]?=some c:=by rw [hx,hq2,List.getElem?_append_right (ar _),Nat.sub_self]; rfl
    rw [List.getElem?_eq_getElem he] at this; simpa using this
   have e1:(pre.length:Int)+((t.flat.length+u.flat.length+(0+1):Nat):Int) - 1=((pre.length+t.flat.length+u.flat.length:Nat):Int):=by omega
   rw [e1]
   have htp:=t.flat_pos
   have hup:=u.flat_pos
   refine mX l Γ hl he m h1 (by omega) (by rw [hc,hw]; decide) (fun h0=>absurd h0 (by rw [hc,hw]; omega)) (fun _=>?_)
   rw [hc,hw]
   have e2:m - 1+2=m+1:=by omega
   have e3:((pre.length+t.flat.length+u.flat.length:Nat):Int) - 1=((pre++t.flat).length:Int)+u.flat.length - 1:=by simp only [aq]; omega
   rw [e2,e3]
   refine mT l Γ hl u hu (pre++t.flat) ([c]++post) (m+1) hq2 (by omega) (by omega) (fun h0=>absurd h0 (by omega)) (fun _=>?_)
   have e4:m+1 - 1=m:=by omega
   have e5:(((pre++t.flat).length:Nat):Int) - 1=(pre.length:Int)+t.flat.length - 1:=by simp
   rw [e4,e5]
   exact mT l Γ hl t ht pre (u.flat++[c]++post) m hq1 h1 (by omega) hend hgo
theorem Cv (t:Tm) (ht:t.ok) (pre post:List Cell) (hq:l=pre++t.flat++post) (hl:l.length≤32) :
 ah Tryz.prog 199 [.l .cell l,.i ((pre.length:Int)+t.flat.length - 1)] [] (.x (.i (pre.length:Int))) []:=by
 generalize he:(pre.length:Int)+t.flat.length - 1=e
 refine dg aV Tryz.func199 (.stop zFe2 { n:=21,fr:=[(0,.p (.lst .cell l)),(4,.i 0),(5,.i 1),(6,.i e)],ck:=[] }) fun Γ=>?_
 rw [← he]
 exact mT l Γ hl t ht pre post 1 hq (by omega) (by
  have:l.length=pre.length+t.flat.length+post.length:=by rw [hq,aq,aq]
  omega) (fun _=>⟨rfl,rfl⟩) (fun h=>absurd rfl h)
abbrev zFe1:List PI:=[.code [1,0,1,0,0],.inLoop [1,0,1,0,0],.inBlock 0,.code [1,1]]
theorem Gd (l:List Str) (s:Str) (Γ:Ctx) (hl:l.length≤maxLen):∀ (n k:Nat),l.length - k≤n→k≤l.length →
 J Tryz.prog 114 (aw Tryz.f114) Γ (Eq2 (.x (.b ((l.drop k).any fun x=>x==s))) []) zFe1 ({ n:=18,fr:=[(0,.p (.lst .str l)),(1,.p (.str s)),(4,.p (.bool false)),(5,.i k)],ck:=[],kn:=[4] }):=by
 intro n
 induction n with
 | zero=>?_
 | succ n ih=>?_
 all_goals
  intro k hn hk
  refine jg aV Tryz.func114 (.ite (decide ((k:Int)<(l.length:Int))) (.need (inRg k l.length) (.ite (ETy.get .str l k==s) (.ret (.p (.bool true)) []) (.stop zFe1 { n:=18,fr:=[(0,.p (.lst .str l)),(1,.p (.str s)),(4,.p (.bool false)),(5,.i (IntKind.wrap .i64 ((k:Int)+1)))],ck:=[],kn:=[4] }))) (.ret (.p (.bool false)) [])) ?_
  refine ⟨fun hlt=>?_,fun hge=>⟨?_,rfl⟩⟩
  · have hk':k<l.length:=by have:=of_decide_eq_true hlt; omega
    rw [bI (t:=.str) hk']
    refine ⟨by omega,?_⟩
    generalize ETy.get .str l k=v
    refine ⟨fun hb=>⟨?_,rfl⟩,fun hb=>?_⟩
    · have hb':(v==s)=true:=hb
      rw [b7,hb']; rfl
    · have hb':(v==s)=false:=hb
      rw [b7,hb',a6,aZ (aC hk' hl)]
      first
      | (exfalso; omega)
      | exact ih (k+1) (by omega) (by omega)
  · rw [bT (by have:=of_decide_eq_false hge; omega)]; rfl
theorem IK (l:List Str) (s:Str):ah Tryz.prog 114 [.l .str l,.s s] [] (.x (.b (l.any fun x=>x==s))) []:=by
 refine dg aV Tryz.func114 (.stop zFe1 { n:=18,fr:=[(0,.p (.lst .str l)),(1,.p (.str s)),(4,.p (.bool false)),(5,.i 0)],ck:=[],kn:=[4] }) fun Γ=>?_
 exact J.len 0 rfl fun hl=>Gd l s Γ hl l.length 0 (by omega) (by omega)
def sH:Ent:=(114,fun
 | [.c (.pd (.lst .str l)),.c (.pd (.str s))],[]=>some (none,.x (.c (.pd (.bool (l.any fun x=>x==s)))),[])
 | _,_=>none)
theorem sN:EntOk Tryz.prog sH:=entOk fun vs ck=>by
 unfold sH; dsimp only; split
 · rename_i l s; exact entS fun hp=>IK l s
 · exact entN
theorem Fo (hl:vs.length≤maxLen):∀ (n k:Nat),vs.length - k≤n→k≤vs.length →
 J Tryz.prog 115 (aw Tryz.f115) Γ (Eq2 (.x (.i (aG (fun v:Var=>v.name==s) (vs.drop k) k))) []) zFe1 ({ n:=20,fr:=[(0,.p (.lst .var vs)),(1,.p (.str s)),(4,.i 0),(5,.i k)],ck:=[] }):=by
 intro n
 induction n with
 | zero=>?_
 | succ n ih=>?_
 all_goals
  intro k hn hk
  refine jg aV Tryz.func115 (.ite (decide ((k:Int)<(vs.length:Int))) (.need (inRg k vs.length) (.ite (Var.name (ETy.get .var vs k)==s) (.ret (.i k) []) (.stop zFe1 { n:=20,fr:=[(0,.p (.lst .var vs)),(1,.p (.str s)),(4,.i 0),(5,.i (IntKind.wrap .i64 ((k:Int)+1)))],ck:=[] }))) (.ret (.i (-1:Int)) [])) ?_
  refine ⟨fun hlt=>?_,fun hge=>⟨?_,rfl⟩⟩
  · have hk':k<vs.length:=by have:=of_decide_eq_true hlt; omega
    rw [bI (t:=.var) hk']
    refine ⟨by omega,?_⟩
    generalize ETy.get .var vs k=v
    refine ⟨fun hb=>⟨?_,rfl⟩,fun hb=>?_⟩
    · have hb':(v.name==s)=true:=hb
      simp only [aG,hb',cond_true]
    · have hb':(v.name==s)=false:=hb
      simp only [aG,hb',cond_false]
      rw [aZ (aC hk' hl)]
      first
      | (exfalso; omega)
      | exact ih (k+1) (by omega) (by omega)
  · rw [bT (by have:=of_decide_eq_false hge; omega)]; rfl
theorem find_spec:ah Tryz.prog 115 [.l .var vs,.s s] [] (.x (.i (aG (fun v:Var=>v.name==s) vs 0))) []:=by
 refine dg aV Tryz.func115 (.stop zFe1 { n:=20,fr:=[(0,.p (.lst .var vs)),(1,.p (.str s)),(4,.i 0),(5,.i 0)],ck:=[] }) fun Γ=>?_
 exact J.len 0 rfl fun hl=>Fo vs s Γ hl vs.length 0 (by omega) (by omega)
def rB:Ent:=(115,fun
 | [.c (.pd (.lst .var vs)),.c (.pd (.str s))],[]=>some (none,.x (.c (.pd (.int .i64 (aG (fun v:Var=>v.name==s) vs 0)))),[])
 | _,_=>none)
theorem wR:EntOk Tryz.prog rB:=entOk fun vs ck=>by
 unfold rB; dsimp only; split
 · rename_i vs s; exact entS fun hp=>find_spec vs s
 · exact entN
def Jq:Cfg:=⟨aX,[rB,sH]⟩
theorem GY:ag Tryz.prog Jq.tab:=(ag.cons wR (ag.cons sN ag.nil))
theorem uE (vs:List Var) (ss:List Str):ah Tryz.prog 198 [.e .cell c,.l .var vs,.l .str ss] [] (cl (bV c vs ss)) []:=by
 refine dg GY Tryz.func198 (.ite (c.op==(1:Int)) (.ret (.tup [.i 1,.i 0]) []) (.ite (c.op==(2:Int)) (.ret (.tup [.i 3,.i 0]) []) (.ite (c.op==(5:Int)) (.ite (decide (aG (fun v=>v.name==c.name) vs (0:Int)<0)) (.ret (.tup [.i 0,.i 2]) []) (.need ((0:Int)≤aG (fun v=>v.name==c.name) vs (0:Int)∧aG (fun v=>v.name==c.name) vs (0:Int)<(vs.length:Int)) (.need (decide (Var.kind (ETy.get .var vs ((aG (fun v=>v.name==c.name) vs (0:Int)).toNat))<(1:Int))=false→(0:Int)≤aG (fun v=>v.name==c.name) vs (0:Int)∧aG (fun v=>v.name==c.name) vs (0:Int)<(vs.length:Int)) (.ite (decide (Var.kind (ETy.get .var vs ((aG (fun v=>v.name==c.name) vs (0:Int)).toNat))<(1:Int))||decide (Var.kind (ETy.get .var vs ((aG (fun v=>v.name==c.name) vs (0:Int)).toNat))>(3:Int))) (.ret (.tup [.i 0,.i 8]) []) (.need ((0:Int)≤aG (fun v=>v.name==c.name) vs (0:Int)∧aG (fun v=>v.name==c.name) vs (0:Int)<(vs.length:Int)) (.ret (.tup [.i (Var.kind (ETy.get .var vs ((aG (fun v=>v.name==c.name) vs (0:Int)).toNat))),.i 0]) [])))))) (.ite (c.op==(6:Int)) (.ite (!List.any ss fun x=>x==c.name) (.ret (.tup [.i 0,.i 2]) []) (.ret (.tup [.i 2,.i 0]) [])) (.ret (.tup [.i 2,.i 0]) []))))) fun Γ=>?_
 refine ⟨fun h1=>⟨by simp only [bV,h1,cond_true,cl],rfl⟩,fun h1=>⟨fun h2=>⟨by simp only [bV,h1,h2,cond_true,cond_false,cl],rfl⟩,fun h2=>⟨fun h5=>?_,fun h5=>⟨fun h6=>⟨fun h=>⟨?_,rfl⟩,fun h=>⟨?_,rfl⟩⟩,fun h6=>⟨by simp only [bV,h1,h2,h5,h6,cond_false,cl],rfl⟩⟩⟩⟩⟩
 · rcases iL (fun v:Var=>v.name==c.name) vs 0 with ⟨g1,g2⟩ | ⟨k,x,g1,g2,g3⟩
   · simp only [Int.natCast_zero] at g1
     rw [g1]
     exact ⟨fun _=>⟨by simp only [bV,h1,h2,h5,gH,g2,cond_true,cond_false,cl],rfl⟩,fun h=>by simp at h⟩
   · simp only [Int.natCast_zero,a7] at g1
     have hk:=(List.getElem?_eq_some_iff.1 g2).1
     rw [g1]
     have hkind:(decide (x.kind≥1)&&decide (x.kind≤3)) = !(decide (x.kind<1)||decide (x.kind>3)):=by
      rw [bu]
      simp only [af,decide_eq_true_eq,aF,ay,decide_eq_false_iff_not]
      omega
     refine ⟨fun h=>by have:=of_decide_eq_true h; omega,fun _=>⟨by omega,?_⟩⟩
     rw [ai,ETy.get_eq (t:=.var) g2]
     refine ⟨fun _=>⟨by omega,by omega⟩,fun h=>⟨?_,rfl⟩,fun h=>⟨⟨by omega,by omega⟩,?_,rfl⟩⟩
     · simp only [bV,h1,h2,h5,gH,g3,hkind,h,bO,cond_true,cond_false,cl]
     · simp only [bV,h1,h2,h5,gH,g3,hkind,h,cA,cond_true,cond_false,cl]
 · simp only [bV,h1,h2,h5,h6,h,cond_true,cond_false,cl]
 · simp only [bV,h1,h2,h5,h6,h,cond_true,cond_false,cl]
def q9:Ent:=(198,fun
 | [.agg [.pd (.int .i64 a),.pd (.int .i64 b),.pd (.str d)],.c (.pd (.lst .var vs)),.c (.pd (.lst .str ss))],[]=>some (none,cl (bV ⟨a,b,d⟩ vs ss),[])
 | _,_=>none)
theorem FJ:EntOk Tryz.prog q9:=entOk fun vs ck=>by
 unfold q9; dsimp only; split
 · rename_i a b d vs ss; exact entS fun hp=>uE ⟨a,b,d⟩ vs ss
 · exact entN
theorem yR (op k:Int):ah Tryz.prog 200 [.i op,.i k] [] (cl (fZ op k)) []:=by
 refine dg aV Tryz.func200 (let x1:Tree:=(.ret (.tup [.i 0,.i 8]) []); let x2:Tree:=(.ret (.tup [.i k,.i 0]) []); .ite (op==(16:Int)||op==(17:Int)) (.ret (.tup [.i 2,.i 0]) []) (.ite (op==(22:Int)||op==(23:Int)) (.ite (k==(2:Int)) x2 x1) (.ite (decide (op≥(18:Int))) (.ite (k==(1:Int)) (.ret (.tup [.i 2,.i 0]) []) x1) (.ite (decide (op≥(14:Int))) (.ite (k==(1:Int)) x2 x1) (.ite (k != (2:Int)) x2 x1))))) fun Γ=>?_
 conv=>zeta
 (repeat' (first | intro h | constructor)) <;> simp only [fZ, *,cond_true,cond_false,cl]
def eJn:Ent:=(200,fun
 | [.c (.pd (.int .i64 op)),.c (.pd (.int .i64 k))],[]=>some (none,cl (fZ op k),[])
 | _,_=>none)
theorem LK:EntOk Tryz.prog eJn:=entOk fun vs ck=>by
 unfold eJn; dsimp only; split
 · rename_i op k; exact entS fun hp=>yR op k
 · exact entN
end Go.Proofs.YtcopfgbbjdefbaaGreatDoor
namespace Go.Proofs.YtcopfgbbjdefbaaGreatDoor
open Go Go.Ev
set_option maxRecDepth 100000
def eK (K : Int → Int × Int) : Ent := (165, fun
 | [.c (.pd (.lst .cell l)), .c (.pd (.int .i64 e)), .c (.pd (.lst .var vs)), .c (.pd (.lst .str ss))], [] => some (some (ah Tryz.prog 165 [SX.l .cell l, SX.i e, SX.l .var vs, SX.l .str ss] [] (cl (K e)) []), cl (K e), [])
 | _, _ => none)
def eB (B : Int → Int) : Ent := (199, fun
 | [.c (.pd (.lst .cell l)), .c (.pd (.int .i64 e))], [] => some (some (ah Tryz.prog 199 [SX.l .cell l, SX.i e] [] (.x (.i (B e))) []), .x (.i (B e)), [])
 | _, _ => none)
def Cw (K : Int → Int × Int) (B : Int → Int) : Cfg := ⟨aX, [xU, q9, eJn, eK K, eB B]⟩
def Je (K : Int → Int × Int) : Cfg := ⟨aX, [mh, eK K]⟩
theorem Jr {K : Int → Int × Int} (vs : List SX) (ck : List Chunk) (p : Option Prop) (ret : SV) (ck' : List Chunk) (h : (eK K).2 vs ck = some (p, ret, ck')) (hp : Holds p) : ah Tryz.prog (eK K).1 vs ck ret ck' := by
 unfold eK at h
 simp only at h
 split at h
 · simp only [Option.some.injEq, Prod.mk.injEq] at h
   obtain ⟨rfl, rfl, rfl⟩ := h
   exact hp
 · simp at h
theorem MB {B : Int → Int} (vs : List SX) (ck : List Chunk) (p : Option Prop) (ret : SV) (ck' : List Chunk) (h : (eB B).2 vs ck = some (p, ret, ck')) (hp : Holds p) : ah Tryz.prog (eB B).1 vs ck ret ck' := by
 unfold eB at h
 simp only at h
 split at h
 · simp only [Option.some.injEq, Prod.mk.injEq] at h
   obtain ⟨rfl, rfl, rfl⟩ := h
   exact hp
 · simp at h
theorem sT {K : Int → Int × Int} {B : Int → Int} : ag Tryz.prog (Cw K B).tab := ag.cons AH (ag.cons FJ (ag.cons LK (ag.cons Jr (ag.cons MB ag.nil))))
theorem IS {K : Int → Int × Int} : ag Tryz.prog (Je K).tab := ag.cons r7 (ag.cons Jr ag.nil)
theorem nZ {l pre post : List Cell} {c : Cell} {front : List Cell} (hq : l = pre ++ (front ++ [c]) ++ post) : pre.length + front.length < l.length ∧ ETy.get .cell l (pre.length + front.length) = c := by
 have he : pre.length + front.length < l.length := by rw [hq]; simp
 refine ⟨he, ETy.get_eq (t := .cell) ?_⟩
 have hx : pre.length + front.length = (pre ++ front).length := by simp
 rw [hx, hq, ← List.append_assoc, List.append_assoc, List.getElem?_append_right (Nat.le_refl _), Nat.sub_self]; rfl
theorem FH (c : Cell) (h : 0 ≤ bk c) : c.op ≤ 23 := by
 unfold bk cH at h
 simp only [cond_eq_ite] at h
 repeat' split at h
 all_goals simp_all
 all_goals omega
theorem k8 (l : List Cell) (vs : List Var) (ss : List Str) (hl : l.length ≤ 32) : ∀ (t : Tm), t.ok → ∀ (pre post : List Cell), l = pre ++ t.flat ++ post →
 ah Tryz.prog 165 [.l .cell l, .i ((pre.length : Int) + t.flat.length - 1), .l .var vs, .l .str ss] [] (cl (t.kind vs ss)) []
 | .leaf c, h, pre, post, hq => by
   obtain ⟨he, hc⟩ := nZ (front := []) (pre := pre) (post := post) (c := c) (l := l) (by rw [hq]; simp [Tm.flat])
   have e1 : (pre.length : Int) + ((Tm.leaf c).flat.length : Int) - 1 = ((pre.length + ([] : List Cell).length : Nat) : Int) := by simp [Tm.flat]
   rw [e1]
   generalize pre.length + ([] : List Cell).length = e at *
   let K : Int → Int × Int := fun _ => (0, 0)
   let B : Int → Int := fun _ => 0
   refine dg (cfg := (Cw K B)) sT Tryz.func165 (.need (inRg e l.length) (.ite (cH (Cell.op (ETy.get .cell l e)) (Cell.a (ETy.get .cell l e)) (Cell.name (ETy.get .cell l e)) == (0 : Int)) (.ret (.tup [.i (Prod.fst (bV (ETy.get .cell l e) vs ss)), .i (Prod.snd (bV (ETy.get .cell l e) vs ss))]) []) (.ite (cH (Cell.op (ETy.get .cell l e)) (Cell.a (ETy.get .cell l e)) (Cell.name (ETy.get .cell l e)) == (1 : Int)) (.need (ah Tryz.prog (165 : FuncId) [SX.l .cell l, SX.i (IntKind.wrap .i64 ((e : Int) - 1)), SX.l .var vs, SX.l .str ss] [] (cl (K (IntKind.wrap .i64 ((e : Int) - 1)))) []) (.ite (Prod.snd (K (IntKind.wrap .i64 ((e : Int) - 1))) != (0 : Int)) (.ret (.tup [.i 0, .i (Prod.snd (K (IntKind.wrap .i64 ((e : Int) - 1))))]) []) (.ite (Cell.op (ETy.get .cell l e) == (7 : Int) && Prod.fst (K (IntKind.wrap .i64 ((e : Int) - 1))) != (2 : Int)) (.ret (.tup [.i (Prod.fst (K (IntKind.wrap .i64 ((e : Int) - 1)))), .i 0]) []) (.ite (Cell.op (ETy.get .cell l e) == (8 : Int) && Prod.fst (K (IntKind.wrap .i64 ((e : Int) - 1))) == (2 : Int)) (.ret (.tup [.i (Prod.fst (K (IntKind.wrap .i64 ((e : Int) - 1)))), .i 0]) []) (.ite (decide (Cell.op (ETy.get .cell l e) > (8 : Int)) && Prod.fst (K (IntKind.wrap .i64 ((e : Int) - 1))) == (3 : Int)) (.ret (.tup [.i 1, .i 0]) []) (.ret (.tup [.i 0, .i 8]) [])))))) (.need (ah Tryz.prog (199 : FuncId) [SX.l .cell l, SX.i (IntKind.wrap .i64 ((e : Int) - 1))] [] (.x (SX.i (B (IntKind.wrap .i64 ((e : Int) - 1))))) []) (.need (ah Tryz.prog (165 : FuncId) [SX.l .cell l, SX.i (IntKind.wrap .i64 (B (IntKind.wrap .i64 ((e : Int) - 1)) - (1 : Int))), SX.l .var vs, SX.l .str ss] [] (cl (K (IntKind.wrap .i64 (B (IntKind.wrap .i64 ((e : Int) - 1)) - (1 : Int))))) []) (.ite (Prod.snd (K (IntKind.wrap .i64 (B (IntKind.wrap .i64 ((e : Int) - 1)) - (1 : Int)))) != (0 : Int)) (.ret (.tup [.i 0, .i (Prod.snd (K (IntKind.wrap .i64 (B (IntKind.wrap .i64 ((e : Int) - 1)) - (1 : Int)))))]) []) (.need (ah Tryz.prog (165 : FuncId) [SX.l .cell l, SX.i (IntKind.wrap .i64 ((e : Int) - 1)), SX.l .var vs, SX.l .str ss] [] (cl (K (IntKind.wrap .i64 ((e : Int) - 1)))) []) (.ite (Prod.snd (K (IntKind.wrap .i64 ((e : Int) - 1))) != (0 : Int)) (.ret (.tup [.i 0, .i (Prod.snd (K (IntKind.wrap .i64 ((e : Int) - 1))))]) []) (.ite (Prod.fst (K (IntKind.wrap .i64 (B (IntKind.wrap .i64 ((e : Int) - 1)) - (1 : Int)))) != Prod.fst (K (IntKind.wrap .i64 ((e : Int) - 1)))) (.ret (.tup [.i 0, .i 8]) []) (.ret (.tup [.i (Prod.fst (fZ (Cell.op (ETy.get .cell l e)) (Prod.fst (K (IntKind.wrap .i64 (B (IntKind.wrap .i64 ((e : Int) - 1)) - (1 : Int))))))), .i (Prod.snd (fZ (Cell.op (ETy.get .cell l e)) (Prod.fst (K (IntKind.wrap .i64 (B (IntKind.wrap .i64 ((e : Int) - 1)) - (1 : Int)))))))]) [])))))))))) fun Γ => ?_
   rw [hc]
   have hw : cH c.op c.a c.name = 0 := h
   rw [hw]
   exact ⟨⟨by omega, by omega⟩, fun _ => ⟨rfl, rfl⟩, fun h => Bool.noConfusion h⟩
 | .un c t, ⟨hw, ht⟩, pre, post, hq => by
   obtain ⟨he, hc⟩ := nZ (front := t.flat) (pre := pre) (post := post) (c := c) (l := l) hq
   have e1 : (pre.length : Int) + ((Tm.un c t).flat.length : Int) - 1 = ((pre.length + t.flat.length : Nat) : Int) := by simp only [Tm.flat, List.length_append, List.length_cons, List.length_nil]; omega
   rw [e1]
   have hop := ga c (by omega)
   have hw' : cH c.op c.a c.name = 1 := hw
   have e2 : IntKind.wrap .i64 (((pre.length + t.flat.length : Nat) : Int) - 1) = (pre.length : Int) + t.flat.length - 1 := by
    have := t.flat_pos
    rw [cv (by omega) (by omega)]; omega
   have ih := k8 l vs ss hl t ht pre ([c] ++ post) (by rw [hq]; simp [Tm.flat])
   rw [← e2] at ih
   generalize pre.length + t.flat.length = e at *
   let K : Int → Int × Int := fun _ => t.kind vs ss
   let B : Int → Int := fun _ => 0
   refine dg (cfg := (Cw K B)) sT Tryz.func165 (.need (inRg e l.length) (.ite (cH (Cell.op (ETy.get .cell l e)) (Cell.a (ETy.get .cell l e)) (Cell.name (ETy.get .cell l e)) == (0 : Int)) (.ret (.tup [.i (Prod.fst (bV (ETy.get .cell l e) vs ss)), .i (Prod.snd (bV (ETy.get .cell l e) vs ss))]) []) (.ite (cH (Cell.op (ETy.get .cell l e)) (Cell.a (ETy.get .cell l e)) (Cell.name (ETy.get .cell l e)) == (1 : Int)) (.need (ah Tryz.prog (165 : FuncId) [SX.l .cell l, SX.i (IntKind.wrap .i64 ((e : Int) - 1)), SX.l .var vs, SX.l .str ss] [] (cl (K (IntKind.wrap .i64 ((e : Int) - 1)))) []) (.ite (Prod.snd (K (IntKind.wrap .i64 ((e : Int) - 1))) != (0 : Int)) (.ret (.tup [.i 0, .i (Prod.snd (K (IntKind.wrap .i64 ((e : Int) - 1))))]) []) (.ite (Cell.op (ETy.get .cell l e) == (7 : Int) && Prod.fst (K (IntKind.wrap .i64 ((e : Int) - 1))) != (2 : Int)) (.ret (.tup [.i (Prod.fst (K (IntKind.wrap .i64 ((e : Int) - 1)))), .i 0]) []) (.ite (Cell.op (ETy.get .cell l e) == (8 : Int) && Prod.fst (K (IntKind.wrap .i64 ((e : Int) - 1))) == (2 : Int)) (.ret (.tup [.i (Prod.fst (K (IntKind.wrap .i64 ((e : Int) - 1)))), .i 0]) []) (.ite (decide (Cell.op (ETy.get .cell l e) > (8 : Int)) && Prod.fst (K (IntKind.wrap .i64 ((e : Int) - 1))) == (3 : Int)) (.ret (.tup [.i 1, .i 0]) []) (.ret (.tup [.i 0, .i 8]) [])))))) (.need (ah Tryz.prog (199 : FuncId) [SX.l .cell l, SX.i (IntKind.wrap .i64 ((e : Int) - 1))] [] (.x (SX.i (B (IntKind.wrap .i64 ((e : Int) - 1))))) []) (.need (ah Tryz.prog (165 : FuncId) [SX.l .cell l, SX.i (IntKind.wrap .i64 (B (IntKind.wrap .i64 ((e : Int) - 1)) - (1 : Int))), SX.l .var vs, SX.l .str ss] [] (cl (K (IntKind.wrap .i64 (B (IntKind.wrap .i64 ((e : Int) - 1)) - (1 : Int))))) []) (.ite (Prod.snd (K (IntKind.wrap .i64 (B (IntKind.wrap .i64 ((e : Int) - 1)) - (1 : Int)))) != (0 : Int)) (.ret (.tup [.i 0, .i (Prod.snd (K (IntKind.wrap .i64 (B (IntKind.wrap .i64 ((e : Int) - 1)) - (1 : Int)))))]) []) (.need (ah Tryz.prog (165 : FuncId) [SX.l .cell l, SX.i (IntKind.wrap .i64 ((e : Int) - 1)), SX.l .var vs, SX.l .str ss] [] (cl (K (IntKind.wrap .i64 ((e : Int) - 1)))) []) (.ite (Prod.snd (K (IntKind.wrap .i64 ((e : Int) - 1))) != (0 : Int)) (.ret (.tup [.i 0, .i (Prod.snd (K (IntKind.wrap .i64 ((e : Int) - 1))))]) []) (.ite (Prod.fst (K (IntKind.wrap .i64 (B (IntKind.wrap .i64 ((e : Int) - 1)) - (1 : Int)))) != Prod.fst (K (IntKind.wrap .i64 ((e : Int) - 1)))) (.ret (.tup [.i 0, .i 8]) []) (.ret (.tup [.i (Prod.fst (fZ (Cell.op (ETy.get .cell l e)) (Prod.fst (K (IntKind.wrap .i64 (B (IntKind.wrap .i64 ((e : Int) - 1)) - (1 : Int))))))), .i (Prod.snd (fZ (Cell.op (ETy.get .cell l e)) (Prod.fst (K (IntKind.wrap .i64 (B (IntKind.wrap .i64 ((e : Int) - 1)) - (1 : Int)))))))]) [])))))))))) fun Γ => ?_
   rw [hc, hw']
   refine ⟨⟨by omega, by omega⟩, fun h => Bool.noConfusion h, fun _ => ⟨fun _ => ⟨ih, ?_⟩, fun h => Bool.noConfusion h⟩⟩
   simp only [Tm.kind, K]
   have hone := t.kind_one vs ss
   generalize t.kind vs ss = kf at *
   obtain ⟨k1, k2⟩ := kf
   refine ⟨fun h => ⟨?_, rfl⟩, fun h => ?_⟩
   · have h' : (k2 != 0) = true := h
     simp only [h', cond_true, cl]
   · have h' : (k2 != 0) = false := h
     have h0 : k2 = 0 := by simpa using h'
     have hk := hone.1 h0
     have hu := L5 c.op k1 (by omega) (by omega) hk.1 hk.2
     simp only [h', cond_false, ← hu]
     refine ⟨fun q1 => ⟨?_, rfl⟩, fun q1 => ⟨fun q2 => ⟨?_, rfl⟩, fun q2 => ⟨fun q3 => ⟨?_, rfl⟩, fun q3 => ⟨?_, rfl⟩⟩⟩⟩ <;> simp only [Ju, *, cond_true, cond_false, cl]
 | .bin c t u, ⟨hw, ht, hu⟩, pre, post, hq => by
   obtain ⟨he, hc⟩ := nZ (front := t.flat ++ u.flat) (pre := pre) (post := post) (c := c) (l := l) hq
   have e1 : (pre.length : Int) + ((Tm.bin c t u).flat.length : Int) - 1 = ((pre.length + (t.flat ++ u.flat).length : Nat) : Int) := by simp only [Tm.flat, List.length_append, List.length_cons, List.length_nil]; omega
   rw [e1]
   have hop := ga c (by omega)
   have hw' : cH c.op c.a c.name = 2 := hw
   have htp := t.flat_pos
   have hup := u.flat_pos
   have hq1 : l = pre ++ t.flat ++ (u.flat ++ [c] ++ post) := by rw [hq]; simp [Tm.flat]
   have hq2 : l = (pre ++ t.flat) ++ u.flat ++ ([c] ++ post) := by rw [hq]; simp [Tm.flat]
   have e2 : IntKind.wrap .i64 (((pre.length + (t.flat ++ u.flat).length : Nat) : Int) - 1) = ((pre ++ t.flat).length : Int) + u.flat.length - 1 := by
    simp only [List.length_append] at he ⊢
    rw [cv (by omega) (by omega)]; omega
   have e3 : IntKind.wrap .i64 (((pre ++ t.flat).length : Int) - 1) = (pre.length : Int) + t.flat.length - 1 := by
    simp only [List.length_append] at he ⊢
    rw [cv (by omega) (by omega)]; omega
   have ih1 := k8 l vs ss hl t ht pre (u.flat ++ [c] ++ post) hq1
   have ih2 := k8 l vs ss hl u hu (pre ++ t.flat) ([c] ++ post) hq2
   have hbeg := Cv l u hu (pre ++ t.flat) ([c] ++ post) hq2 hl
   have hne : IntKind.wrap .i64 (((pre ++ t.flat).length : Int) - 1) ≠ IntKind.wrap .i64 (((pre.length + (t.flat ++ u.flat).length : Nat) : Int) - 1) := by
    rw [e2, e3]; simp only [List.length_append]; omega
   rw [← e3] at ih1
   rw [← e2] at ih2 hbeg
   generalize pre.length + (t.flat ++ u.flat).length = e at *
   generalize (pre ++ t.flat).length = x at *
   let K : Int → Int × Int := fun i => if i = IntKind.wrap .i64 ((x : Int) - 1) then t.kind vs ss else u.kind vs ss
   let B : Int → Int := fun _ => (x : Int)
   have k1 : K (IntKind.wrap .i64 ((x : Int) - 1)) = t.kind vs ss := if_pos rfl
   have k2 : K (IntKind.wrap .i64 ((e : Int) - 1)) = u.kind vs ss := if_neg (Ne.symm hne)
   refine dg (cfg := (Cw K B)) sT Tryz.func165 (.need (inRg e l.length) (.ite (cH (Cell.op (ETy.get .cell l e)) (Cell.a (ETy.get .cell l e)) (Cell.name (ETy.get .cell l e)) == (0 : Int)) (.ret (.tup [.i (Prod.fst (bV (ETy.get .cell l e) vs ss)), .i (Prod.snd (bV (ETy.get .cell l e) vs ss))]) []) (.ite (cH (Cell.op (ETy.get .cell l e)) (Cell.a (ETy.get .cell l e)) (Cell.name (ETy.get .cell l e)) == (1 : Int)) (.need (ah Tryz.prog (165 : FuncId) [SX.l .cell l, SX.i (IntKind.wrap .i64 ((e : Int) - 1)), SX.l .var vs, SX.l .str ss] [] (cl (K (IntKind.wrap .i64 ((e : Int) - 1)))) []) (.ite (Prod.snd (K (IntKind.wrap .i64 ((e : Int) - 1))) != (0 : Int)) (.ret (.tup [.i 0, .i (Prod.snd (K (IntKind.wrap .i64 ((e : Int) - 1))))]) []) (.ite (Cell.op (ETy.get .cell l e) == (7 : Int) && Prod.fst (K (IntKind.wrap .i64 ((e : Int) - 1))) != (2 : Int)) (.ret (.tup [.i (Prod.fst (K (IntKind.wrap .i64 ((e : Int) - 1)))), .i 0]) []) (.ite (Cell.op (ETy.get .cell l e) == (8 : Int) && Prod.fst (K (IntKind.wrap .i64 ((e : Int) - 1))) == (2 : Int)) (.ret (.tup [.i (Prod.fst (K (IntKind.wrap .i64 ((e : Int) - 1)))), .i 0]) []) (.ite (decide (Cell.op (ETy.get .cell l e) > (8 : Int)) && Prod.fst (K (IntKind.wrap .i64 ((e : Int) - 1))) == (3 : Int)) (.ret (.tup [.i 1, .i 0]) []) (.ret (.tup [.i 0, .i 8]) [])))))) (.need (ah Tryz.prog (199 : FuncId) [SX.l .cell l, SX.i (IntKind.wrap .i64 ((e : Int) - 1))] [] (.x (SX.i (B (IntKind.wrap .i64 ((e : Int) - 1))))) []) (.need (ah Tryz.prog (165 : FuncId) [SX.l .cell l, SX.i (IntKind.wrap .i64 (B (IntKind.wrap .i64 ((e : Int) - 1)) - (1 : Int))), SX.l .var vs, SX.l .str ss] [] (cl (K (IntKind.wrap .i64 (B (IntKind.wrap .i64 ((e : Int) - 1)) - (1 : Int))))) []) (.ite (Prod.snd (K (IntKind.wrap .i64 (B (IntKind.wrap .i64 ((e : Int) - 1)) - (1 : Int)))) != (0 : Int)) (.ret (.tup [.i 0, .i (Prod.snd (K (IntKind.wrap .i64 (B (IntKind.wrap .i64 ((e : Int) - 1)) - (1 : Int)))))]) []) (.need (ah Tryz.prog (165 : FuncId) [SX.l .cell l, SX.i (IntKind.wrap .i64 ((e : Int) - 1)), SX.l .var vs, SX.l .str ss] [] (cl (K (IntKind.wrap .i64 ((e : Int) - 1)))) []) (.ite (Prod.snd (K (IntKind.wrap .i64 ((e : Int) - 1))) != (0 : Int)) (.ret (.tup [.i 0, .i (Prod.snd (K (IntKind.wrap .i64 ((e : Int) - 1))))]) []) (.ite (Prod.fst (K (IntKind.wrap .i64 (B (IntKind.wrap .i64 ((e : Int) - 1)) - (1 : Int)))) != Prod.fst (K (IntKind.wrap .i64 ((e : Int) - 1)))) (.ret (.tup [.i 0, .i 8]) []) (.ret (.tup [.i (Prod.fst (fZ (Cell.op (ETy.get .cell l e)) (Prod.fst (K (IntKind.wrap .i64 (B (IntKind.wrap .i64 ((e : Int) - 1)) - (1 : Int))))))), .i (Prod.snd (fZ (Cell.op (ETy.get .cell l e)) (Prod.fst (K (IntKind.wrap .i64 (B (IntKind.wrap .i64 ((e : Int) - 1)) - (1 : Int)))))))]) [])))))))))) fun Γ => ?_
   have hB : B (IntKind.wrap .i64 ((e : Int) - 1)) = (x : Int) := rfl
   rw [hc, hw', hB, k1, k2]
   refine ⟨⟨by omega, by omega⟩, fun h => Bool.noConfusion h, fun _ => ⟨fun h => Bool.noConfusion h, fun _ => ⟨hbeg, ih1, ?_⟩⟩⟩
   simp only [Tm.kind]
   have hone := t.kind_one vs ss
   have hone2 := u.kind_one vs ss
   clear_value K B
   generalize t.kind vs ss = kf at *
   generalize u.kind vs ss = kg at *
   obtain ⟨a1, a2⟩ := kf
   obtain ⟨b1, b2⟩ := kg
   refine ⟨fun h => ⟨?_, rfl⟩, fun h => ⟨ih2, fun h3 => ⟨?_, rfl⟩, fun h3 => ?_⟩⟩
   · have h' : (a2 != 0) = true := h
     simp only [h', cond_true, cl]
   · have h' : (a2 != 0) = false := h
     have h3' : (b2 != 0) = true := h3
     simp only [h', h3', cond_true, cond_false, cl]
   · have h' : (a2 != 0) = false := h
     have h3' : (b2 != 0) = false := h3
     have h0 : a2 = 0 := by simpa using h'
     have h0' : b2 = 0 := by simpa using h3'
     have hk := hone.1 h0
     have hk2 := hone2.1 h0'
     have hop' : c.op ≤ 23 := FH c (by omega)
     have hb := KA c.op a1 b1 (by omega) hop' hk.1 hk.2 hk2.1 hk2.2
     simp only [h', h3', cond_false, ← hb]
     refine ⟨fun q1 => ⟨?_, rfl⟩, fun q1 => ⟨?_, rfl⟩⟩ <;> simp only [FM, q1, cond_true, cond_false, cl]
theorem sQ (l : List Cell) (vs : List Var) (ss : List Str) : ah Tryz.prog 116 [.l .cell l, .l .var vs, .l .str ss] [] (cl (b8 l vs ss)) [] := by
 let K : Int → Int × Int := fun _ => b8 l vs ss
 refine dg (cfg := (Je K)) IS Tryz.func116 (.ite (!dM l) (.ret (.tup [.i 0, .i 1]) []) (.need (ah Tryz.prog (165 : FuncId) [SX.l .cell l, SX.i (IntKind.wrap .i64 ((l.length : Int) - 1)), SX.l .var vs, SX.l .str ss] [] (cl (K (IntKind.wrap .i64 ((l.length : Int) - 1)))) []) (.ret (.tup [.i (Prod.fst (K (IntKind.wrap .i64 ((l.length : Int) - 1)))), .i (Prod.snd (K (IntKind.wrap .i64 ((l.length : Int) - 1))))]) []))) fun Γ => ?_
 refine ⟨fun h => ⟨by simp only [b8, h, cond_true, cl], rfl⟩, fun h => ?_⟩
 have h' : dM l = true := by simpa using h
 obtain ⟨h32, t, ht, hq⟩ := Is h'
 have hk : b8 l vs ss = t.kind vs ss := by rw [← hq]; exact CG vs ss ht (by rw [hq]; exact h32)
 have htp := t.flat_pos
 have ih := k8 l vs ss h32 t ht [] [] (by rw [List.nil_append, List.append_nil, hq])
 have e : ((([] : List Cell).length : Nat) : Int) + t.flat.length - 1 = IntKind.wrap .i64 ((l.length : Int) - 1) := by
  rw [hq] at htp ⊢
  rw [cv (by omega) (by omega)]; simp
 rw [e, ← hk] at ih
 exact ⟨ih, rfl, rfl⟩
def xt : Ent := (116, fun
 | [.c (.pd (.lst .cell l)), .c (.pd (.lst .var vs)), .c (.pd (.lst .str ss))], [] => some (none, cl (b8 l vs ss), [])
 | _, _ => none)
theorem Aq : EntOk Tryz.prog xt := entOk fun vs ck => by
 unfold xt; dsimp only; split
 · rename_i l vs ss; exact entS fun hp => sQ l vs ss
 · exact entN
end Go.Proofs.YtcopfgbbjdefbaaGreatDoor
