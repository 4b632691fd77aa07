/- Contracts: where the document's operands begin; its searches, its kinds of leaves. Conditions: none. Contracts: the document's kinds. Conditions: none. -/
import Derived.Test.YtcopfgbbjdefbaaGreatDoorFd
namespace Go.Proofs.YtcopfgbbjdefbaaGreatDoor
open Go Go.Ev
set_option maxRecDepth 100000
abbrev zJ199Fe:=J Tryz.prog 199 (aw Tryz.f199)
variable (vs:List Var) (s:Str) (l:List Cell) (c:Cell) (Γ:Ctx)
theorem FV:a6 c≤2:=by
 unfold a6 cu
 simp only [cond_eq_ite]
 repeat' split
 all_goals omega
abbrev zFe2:List PI:=[.code [1,1,1,0,0],.inLoop [1,1,1,0,0],.inBlock 0]
theorem lT (hl:l.length≤32) {e:Nat} (he:e<l.length) (m:Int) (h1:1≤m) (h2:m≤100) {Q:Out}
 (hw:0≤a6 l[e]) (hend:m - 1+a6 l[e]=0→Q (.x (.i (e:Int))) [])
 (hgo:m - 1+a6 l[e]≠0→zJ199Fe Γ Q zFe2 ({ n:=21,fr:=[(0,.p (.lst .cell l)),(4,.i 0),(5,.i (m - 1+a6 l[e])),(6,.i ((e:Int) - 1))],ck:=[] })) :
 zJ199Fe Γ Q zFe2 ({ n:=21,fr:=[(0,.p (.lst .cell l)),(4,.i 0),(5,.i m),(6,.i ((e:Int)))],ck:=[] }):=by
 have hle:=FV l[e]
 have hg:ETy.get .cell l e=l[e]:=ETy.get_eq (t:=.cell) (List.getElem?_eq_getElem he)
 refine jg mT Tryz.func199 (let x1:=(IntKind.wrap .i64 (m - (1:Int))+cu (Cell.op (ETy.get .cell l e)) (Cell.a (ETy.get .cell l e)) (Cell.name (ETy.get .cell l e))); .need (inRg e l.length) (.ite (IntKind.wrap .i64 x1==(0:Int)) (.ret (.i e) []) (.stop zFe2 { n:=21,fr:=[(0,.p (.lst .cell l)),(4,.i 0),(5,.i (IntKind.wrap .i64 x1)),(6,.i (IntKind.wrap .i64 ((e:Int) - 1)))],ck:=[] }))) ?_
 conv=>zeta
 rw [hg]
 generalize l[e]=c at *
 refine ⟨⟨by omega,by omega⟩,?_⟩
 have e1:IntKind.wrap IntKind.i64 (IntKind.wrap IntKind.i64 (m - 1)+a6 c)=m - 1+a6 c:=by
  rw [cr (n:=m - 1) (by omega) (by omega),cr (by omega) (by omega)]
 have e2:IntKind.wrap IntKind.i64 ((e:Int) - 1)=(e:Int) - 1:=cr (by omega) (by omega)
 refine ⟨fun h=>?_,fun h=>?_⟩
 · have h':(IntKind.wrap IntKind.i64 (IntKind.wrap IntKind.i64 (m - 1)+a6 c)==0)=true:=h
   rw [e1] at h'
   exact hend (by simpa using h')
 · have h':(IntKind.wrap IntKind.i64 (IntKind.wrap IntKind.i64 (m - 1)+a6 c)==0)=false:=h
   rw [e1] at h'
   show zJ199Fe Γ Q zFe2 ({ n:=21,fr:=[(0,.p (.lst .cell l)),(4,.i 0),(5,.i (IntKind.wrap .i64 (IntKind.wrap .i64 (m - 1)+a6 c))),(6,.i (IntKind.wrap .i64 ((e:Int) - 1)))],ck:=[] })
   rw [e1,e2]
   exact hgo (by simpa using h')
theorem lW (l:List Cell) (Γ:Ctx) (hl:l.length≤32) {Q:Out} :
 ∀ (t:Tm),t.ok→∀ (pre post:List Cell) (m:Int),l=pre++t.flat++post→1≤m→m+(t.flat.length:Int)≤100→(m=1→Q (.x (.i (pre.length:Int))) []) →
  (m≠1→zJ199Fe Γ Q zFe2 ({ n:=21,fr:=[(0,.p (.lst .cell l)),(4,.i 0),(5,.i (m - 1)),(6,.i ((pre.length:Int) - 1))],ck:=[] })) →
  zJ199Fe Γ Q zFe2 ({ n:=21,fr:=[(0,.p (.lst .cell l)),(4,.i 0),(5,.i m),(6,.i (((pre.length:Int)+t.flat.length - 1)))],ck:=[] })
 | .leaf c,h,pre,post,m,hq,h1,h2,hend,hgo=>by
   have he:pre.length<l.length:=by rw [hq]; simp [Tm.flat]
   have hc:l[pre.length]=c:=by
    have:l[pre.length]?=some c:=by rw [hq]; simp [Tm.flat]
    rw [List.getElem?_eq_getElem he] at this; simpa using this
   have hw:a6 c=0:=h
   have e1:(pre.length:Int)+((Tm.leaf c).flat.length:Int) - 1=(pre.length:Int):=by simp [Tm.flat]
   rw [e1]
   refine lT l Γ hl he m h1 (by omega) (by rw [hc,hw]; exact Int.le_refl _) (fun h0=>hend (by rw [hc,hw] at h0; omega)) (fun h0=>?_)
   rw [hc,hw] at h0 ⊢
   have e2:m - 1+0=m - 1:=by omega
   rw [e2]
   exact hgo (by omega)
 | .un c t,⟨hw,ht⟩,pre,post,m,hq,h1,h2,hend,hgo=>by
   simp only [Tm.flat,an,az,bA] at h2 ⊢
   have hq2:l=pre++t.flat++([c]++post):=by rw [hq]; simp [Tm.flat]
   have he:pre.length+t.flat.length<l.length:=by rw [hq2]; simp
   have hc:l[pre.length+t.flat.length]=c:=by
    have:l[pre.length+t.flat.length]?=some c:=by rw [hq2,List.getElem?_append_right (by simp)]; simp
    rw [List.getElem?_eq_getElem he] at this; simpa using this
   have e1:(pre.length:Int)+((t.flat.length+(0+1):Nat):Int) - 1=((pre.length+t.flat.length:Nat):Int):=by omega
   rw [e1]
   have htp:=t.flat_pos
   refine lT l Γ hl he m h1 (by omega) (by rw [hc,hw]; decide) (fun h0=>absurd h0 (by rw [hc,hw]; omega)) (fun _=>?_)
   rw [hc,hw]
   have e2:m - 1+1=m:=by omega
   have e3:((pre.length+t.flat.length:Nat):Int) - 1=(pre.length:Int)+t.flat.length - 1:=by omega
   rw [e2,e3]
   exact lW l Γ hl t ht pre ([c]++post) m hq2 h1 (by omega) hend hgo
 | .bin c t u,⟨hw,ht,hu⟩,pre,post,m,hq,h1,h2,hend,hgo=>by
   simp only [Tm.flat,an,az,bA] at h2 ⊢
   have hq1:l=pre++t.flat++(u.flat++[c]++post):=by rw [hq]; simp [Tm.flat]
   have hq2:l=(pre++t.flat)++u.flat++([c]++post):=by rw [hq]; simp [Tm.flat]
   have he:pre.length+t.flat.length+u.flat.length<l.length:=by rw [hq2]; simp; omega
   have hc:l[pre.length+t.flat.length+u.flat.length]=c:=by
    have hx:pre.length+t.flat.length+u.flat.length=(pre++t.flat++u.flat).length:=by simp [dO]
    have:l[pre.length+t.flat.length+u.flat.length]?=some c:=by rw [hx,hq2,List.getElem?_append_right (ar _),Nat.sub_self]; rfl
    rw [List.getElem?_eq_getElem he] at this; simpa using this
   have e1:(pre.length:Int)+((t.flat.length+u.flat.length+(0+1):Nat):Int) - 1=((pre.length+t.flat.length+u.flat.length:Nat):Int):=by omega
   rw [e1]
   have htp:=t.flat_pos
   have hup:=u.flat_pos
   refine lT l Γ hl he m h1 (by omega) (by rw [hc,hw]; decide) (fun h0=>absurd h0 (by rw [hc,hw]; omega)) (fun _=>?_)
   rw [hc,hw]
   have e2:m - 1+2=m+1:=by omega
   have e3:((pre.length+t.flat.length+u.flat.length:Nat):Int) - 1=((pre++t.flat).length:Int)+u.flat.length - 1:=by simp only [an]; omega
   rw [e2,e3]
   refine lW l Γ hl u hu (pre++t.flat) ([c]++post) (m+1) hq2 (by omega) (by omega) (fun h0=>absurd h0 (by omega)) (fun _=>?_)
   have e4:m+1 - 1=m:=by omega
   have e5:(((pre++t.flat).length:Nat):Int) - 1=(pre.length:Int)+t.flat.length - 1:=by simp
   rw [e4,e5]
   exact lW l Γ hl t ht pre (u.flat++[c]++post) m hq1 h1 (by omega) hend hgo
theorem AM (t:Tm) (ht:t.ok) (pre post:List Cell) (hq:l=pre++t.flat++post) (hl:l.length≤32) :
 ag Tryz.prog 199 [.l .cell l,.i ((pre.length:Int)+t.flat.length - 1)] [] (.x (.i (pre.length:Int))) []:=by
 generalize he:(pre.length:Int)+t.flat.length - 1=e
 refine dg aT Tryz.func199 (.stop zFe2 { n:=21,fr:=[(0,.p (.lst .cell l)),(4,.i 0),(5,.i 1),(6,.i e)],ck:=[] }) fun Γ=>?_
 rw [← he]
 exact lW l Γ hl t ht pre post 1 hq (by omega) (by
  have:l.length=pre.length+t.flat.length+post.length:=by rw [hq,an,an]
  omega) (fun _=>⟨rfl,rfl⟩) (fun h=>absurd rfl h)
abbrev zFe1:List PI:=[.code [1,0,1,0,0],.inLoop [1,0,1,0,0],.inBlock 0,.code [1,1]]
theorem Ek (l:List Str) (s:Str) (Γ:Ctx) (hl:l.length≤maxLen):∀ (n k:Nat),l.length - k≤n→k≤l.length →
 J Tryz.prog 114 (aw Tryz.f114) Γ (Eq2 (.x (.b ((l.drop k).any fun x=>x==s))) []) zFe1 ({ n:=18,fr:=[(0,.p (.lst .str l)),(1,.p (.str s)),(4,.p (.bool false)),(5,.i k)],ck:=[],kn:=[4] }):=by
 intro n
 induction n with
 | zero=>?_
 | succ n ih=>?_
 all_goals
  intro k hn hk
  refine jg aT Tryz.func114 (.ite (decide ((k:Int)<(l.length:Int))) (.need (inRg k l.length) (.ite (ETy.get .str l k==s) (.ret (.p (.bool true)) []) (.stop zFe1 { n:=18,fr:=[(0,.p (.lst .str l)),(1,.p (.str s)),(4,.p (.bool false)),(5,.i (IntKind.wrap .i64 ((k:Int)+1)))],ck:=[],kn:=[4] }))) (.ret (.p (.bool false)) [])) ?_
  refine ⟨fun hlt=>?_,fun hge=>⟨?_,rfl⟩⟩
  · have hk':k<l.length:=by have:=of_decide_eq_true hlt; omega
    rw [bL (t:=.str) hk']
    refine ⟨by omega,?_⟩
    generalize ETy.get .str l k=v
    refine ⟨fun hb=>⟨?_,rfl⟩,fun hb=>?_⟩
    · have hb':(v==s)=true:=hb
      rw [cI,hb']; rfl
    · have hb':(v==s)=false:=hb
      rw [cI,hb',aX,aZ (aE hk' hl)]
      first
      | (exfalso; omega)
      | exact ih (k+1) (by omega) (by omega)
  · rw [bY (by have:=of_decide_eq_false hge; omega)]; rfl
theorem Dm (l:List Str) (s:Str):ag Tryz.prog 114 [.l .str l,.s s] [] (.x (.b (l.any fun x=>x==s))) []:=by
 refine dg aT Tryz.func114 (.stop zFe1 { n:=18,fr:=[(0,.p (.lst .str l)),(1,.p (.str s)),(4,.p (.bool false)),(5,.i 0)],ck:=[],kn:=[4] }) fun Γ=>?_
 exact J.len 0 rfl fun hl=>Ek l s Γ hl l.length 0 (by omega) (by omega)
def qM:Ent:=(114,fun
 | [.c (.pd (.lst .str l)),.c (.pd (.str s))],[]=>some (none,.x (.c (.pd (.bool (l.any fun x=>x==s)))),[])
 | _,_=>none)
theorem qR:EntOk Tryz.prog qM:=entOk fun vs ck=>by
 unfold qM; dsimp only; split
 · rename_i l s; exact entS fun hp=>Dm l s
 · exact entN
theorem Bh (hl:vs.length≤maxLen):∀ (n k:Nat),vs.length - k≤n→k≤vs.length →
 J Tryz.prog 115 (aw Tryz.f115) Γ (Eq2 (.x (.i (aJ (fun v:Var=>v.name==s) (vs.drop k) k))) []) zFe1 ({ n:=20,fr:=[(0,.p (.lst .var vs)),(1,.p (.str s)),(4,.i 0),(5,.i k)],ck:=[] }):=by
 intro n
 induction n with
 | zero=>?_
 | succ n ih=>?_
 all_goals
  intro k hn hk
  refine jg aT Tryz.func115 (.ite (decide ((k:Int)<(vs.length:Int))) (.need (inRg k vs.length) (.ite (Var.name (ETy.get .var vs k)==s) (.ret (.i k) []) (.stop zFe1 { n:=20,fr:=[(0,.p (.lst .var vs)),(1,.p (.str s)),(4,.i 0),(5,.i (IntKind.wrap .i64 ((k:Int)+1)))],ck:=[] }))) (.ret (.i (-1:Int)) [])) ?_
  refine ⟨fun hlt=>?_,fun hge=>⟨?_,rfl⟩⟩
  · have hk':k<vs.length:=by have:=of_decide_eq_true hlt; omega
    rw [bL (t:=.var) hk']
    refine ⟨by omega,?_⟩
    generalize ETy.get .var vs k=v
    refine ⟨fun hb=>⟨?_,rfl⟩,fun hb=>?_⟩
    · have hb':(v.name==s)=true:=hb
      simp only [aJ,hb',cond_true]
    · have hb':(v.name==s)=false:=hb
      simp only [aJ,hb',cond_false]
      rw [aZ (aE hk' hl)]
      first
      | (exfalso; omega)
      | exact ih (k+1) (by omega) (by omega)
  · rw [bY (by have:=of_decide_eq_false hge; omega)]; rfl
theorem find_spec:ag Tryz.prog 115 [.l .var vs,.s s] [] (.x (.i (aJ (fun v:Var=>v.name==s) vs 0))) []:=by
 refine dg aT Tryz.func115 (.stop zFe1 { n:=20,fr:=[(0,.p (.lst .var vs)),(1,.p (.str s)),(4,.i 0),(5,.i 0)],ck:=[] }) fun Γ=>?_
 exact J.len 0 rfl fun hl=>Bh vs s Γ hl vs.length 0 (by omega) (by omega)
def pG:Ent:=(115,fun
 | [.c (.pd (.lst .var vs)),.c (.pd (.str s))],[]=>some (none,.x (.c (.pd (.int .i64 (aJ (fun v:Var=>v.name==s) vs 0)))),[])
 | _,_=>none)
theorem uS:EntOk Tryz.prog pG:=entOk fun vs ck=>by
 unfold pG; dsimp only; split
 · rename_i vs s; exact entS fun hp=>find_spec vs s
 · exact entN
def Ga:Cfg:=⟨bk,[pG,qM]⟩
theorem Ed:ah Tryz.prog Ga.tab:=(ah.cons uS (ah.cons qR ah.nil))
theorem sQ (vs:List Var) (ss:List Str):ag Tryz.prog 198 [.e .cell c,.l .var vs,.l .str ss] [] (cd (bN c vs ss)) []:=by
 refine dg Ed Tryz.func198 (.ite (c.op==(1:Int)) (.ret (.tup [.i 1,.i 0]) []) (.ite (c.op==(2:Int)) (.ret (.tup [.i 3,.i 0]) []) (.ite (c.op==(5:Int)) (.ite (decide (aJ (fun v=>v.name==c.name) vs (0:Int)<0)) (.ret (.tup [.i 0,.i 2]) []) (.need ((0:Int)≤aJ (fun v=>v.name==c.name) vs (0:Int)∧aJ (fun v=>v.name==c.name) vs (0:Int)<(vs.length:Int)) (.need (decide (Var.kind (ETy.get .var vs ((aJ (fun v=>v.name==c.name) vs (0:Int)).toNat))<(1:Int))=false→(0:Int)≤aJ (fun v=>v.name==c.name) vs (0:Int)∧aJ (fun v=>v.name==c.name) vs (0:Int)<(vs.length:Int)) (.ite (decide (Var.kind (ETy.get .var vs ((aJ (fun v=>v.name==c.name) vs (0:Int)).toNat))<(1:Int))||decide (Var.kind (ETy.get .var vs ((aJ (fun v=>v.name==c.name) vs (0:Int)).toNat))>(3:Int))) (.ret (.tup [.i 0,.i 8]) []) (.need ((0:Int)≤aJ (fun v=>v.name==c.name) vs (0:Int)∧aJ (fun v=>v.name==c.name) vs (0:Int)<(vs.length:Int)) (.ret (.tup [.i (Var.kind (ETy.get .var vs ((aJ (fun v=>v.name==c.name) vs (0:Int)).toNat))),.i 0]) [])))))) (.ite (c.op==(6:Int)) (.ite (!List.any ss fun x=>x==c.name) (.ret (.tup [.i 0,.i 2]) []) (.ret (.tup [.i 2,.i 0]) [])) (.ret (.tup [.i 2,.i 0]) []))))) fun Γ=>?_
 refine ⟨fun h1=>⟨by simp only [bN,h1,cond_true,cd],rfl⟩,fun h1=>⟨fun h2=>⟨by simp only [bN,h1,h2,cond_true,cond_false,cd],rfl⟩,fun h2=>⟨fun h5=>?_,fun h5=>⟨fun h6=>⟨fun h=>⟨?_,rfl⟩,fun h=>⟨?_,rfl⟩⟩,fun h6=>⟨by simp only [bN,h1,h2,h5,h6,cond_false,cd],rfl⟩⟩⟩⟩⟩
 · rcases iv (fun v:Var=>v.name==c.name) vs 0 with ⟨g1,g2⟩ | ⟨k,x,g1,g2,g3⟩
   · simp only [Int.natCast_zero] at g1
     rw [g1]
     exact ⟨fun _=>⟨by simp only [bN,h1,h2,h5,gr,g2,cond_true,cond_false,cd],rfl⟩,fun h=>by simp at h⟩
   · simp only [Int.natCast_zero,aS] at g1
     have hk:=(List.getElem?_eq_some_iff.1 g2).1
     rw [g1]
     have hkind:(decide (x.kind≥1)&&decide (x.kind≤3)) = !(decide (x.kind<1)||decide (x.kind>3)):=by
      rw [bt]
      simp only [af,decide_eq_true_eq,aD,ay,decide_eq_false_iff_not]
      omega
     refine ⟨fun h=>by have:=of_decide_eq_true h; omega,fun _=>⟨by omega,?_⟩⟩
     rw [aj,ETy.get_eq (t:=.var) g2]
     refine ⟨fun _=>⟨by omega,by omega⟩,fun h=>⟨?_,rfl⟩,fun h=>⟨⟨by omega,by omega⟩,?_,rfl⟩⟩
     · simp only [bN,h1,h2,h5,gr,g3,hkind,h,bX,cond_true,cond_false,cd]
     · simp only [bN,h1,h2,h5,gr,g3,hkind,h,cn,cond_true,cond_false,cd]
 · simp only [bN,h1,h2,h5,h6,h,cond_true,cond_false,cd]
 · simp only [bN,h1,h2,h5,h6,h,cond_true,cond_false,cd]
def pN:Ent:=(198,fun
 | [.agg [.pd (.int .i64 a),.pd (.int .i64 b),.pd (.str d)],.c (.pd (.lst .var vs)),.c (.pd (.lst .str ss))],[]=>some (none,cd (bN ⟨a,b,d⟩ vs ss),[])
 | _,_=>none)
theorem By:EntOk Tryz.prog pN:=entOk fun vs ck=>by
 unfold pN; dsimp only; split
 · rename_i a b d vs ss; exact entS fun hp=>sQ ⟨a,b,d⟩ vs ss
 · exact entN
theorem v8 (op k:Int):ag Tryz.prog 200 [.i op,.i k] [] (cd (fN op k)) []:=by
 refine dg aT Tryz.func200 (let x1:Tree:=(.ret (.tup [.i 0,.i 8]) []); let x2:Tree:=(.ret (.tup [.i k,.i 0]) []); .ite (op==(16:Int)||op==(17:Int)) (.ret (.tup [.i 2,.i 0]) []) (.ite (op==(22:Int)||op==(23:Int)) (.ite (k==(2:Int)) x2 x1) (.ite (decide (op≥(18:Int))) (.ite (k==(1:Int)) (.ret (.tup [.i 2,.i 0]) []) x1) (.ite (decide (op≥(14:Int))) (.ite (k==(1:Int)) x2 x1) (.ite (k != (2:Int)) x2 x1))))) fun Γ=>?_
 conv=>zeta
 (repeat' (first | intro h | constructor)) <;> simp only [fN, *,cond_true,cond_false,cd]
def eJn:Ent:=(200,fun
 | [.c (.pd (.int .i64 op)),.c (.pd (.int .i64 k))],[]=>some (none,cd (fN op k),[])
 | _,_=>none)
theorem IA:EntOk Tryz.prog eJn:=entOk fun vs ck=>by
 unfold eJn; dsimp only; split
 · rename_i op k; exact entS fun hp=>v8 op k
 · exact entN
end Go.Proofs.YtcopfgbbjdefbaaGreatDoor
namespace Go.Proofs.YtcopfgbbjdefbaaGreatDoor
open Go Go.Ev
set_option maxRecDepth 100000
def eK (K : Int → Int × Int) : Ent := (165, fun
 | [.c (.pd (.lst .cell l)), .c (.pd (.int .i64 e)), .c (.pd (.lst .var vs)), .c (.pd (.lst .str ss))], [] => some (some (ag Tryz.prog 165 [SX.l .cell l, SX.i e, SX.l .var vs, SX.l .str ss] [] (cd (K e)) []), cd (K e), [])
 | _, _ => none)
def eB (B : Int → Int) : Ent := (199, fun
 | [.c (.pd (.lst .cell l)), .c (.pd (.int .i64 e))], [] => some (some (ag Tryz.prog 199 [SX.l .cell l, SX.i e] [] (.x (.i (B e))) []), .x (.i (B e)), [])
 | _, _ => none)
def AG (K : Int → Int × Int) (B : Int → Int) : Cfg := ⟨bk, [uA, pN, eJn, eK K, eB B]⟩
def Gs (K : Int → Int × Int) : Cfg := ⟨bk, [ld, eK K]⟩
theorem Gq {K : Int → Int × Int} (vs : List SX) (ck : List Chunk) (p : Option Prop) (ret : SV) (ck' : List Chunk) (h : (eK K).2 vs ck = some (p, ret, ck')) (hp : Holds p) : ag Tryz.prog (eK K).1 vs ck ret ck' := by
 unfold eK at h
 simp only at h
 split at h
 · simp only [Option.some.injEq, Prod.mk.injEq] at h
   obtain ⟨rfl, rfl, rfl⟩ := h
   exact hp
 · simp at h
theorem Jl {B : Int → Int} (vs : List SX) (ck : List Chunk) (p : Option Prop) (ret : SV) (ck' : List Chunk) (h : (eB B).2 vs ck = some (p, ret, ck')) (hp : Holds p) : ag Tryz.prog (eB B).1 vs ck ret ck' := by
 unfold eB at h
 simp only at h
 split at h
 · simp only [Option.some.injEq, Prod.mk.injEq] at h
   obtain ⟨rfl, rfl, rfl⟩ := h
   exact hp
 · simp at h
theorem qV {K : Int → Int × Int} {B : Int → Int} : ah Tryz.prog (AG K B).tab := ah.cons xm (ah.cons By (ah.cons IA (ah.cons Gq (ah.cons Jl ah.nil))))
theorem Fv {K : Int → Int × Int} : ah Tryz.prog (Gs K).tab := ah.cons qy (ah.cons Gq ah.nil)
theorem mW {l pre post : List Cell} {c : Cell} {front : List Cell} (hq : l = pre ++ (front ++ [c]) ++ post) : pre.length + front.length < l.length ∧ ETy.get .cell l (pre.length + front.length) = c := by
 have he : pre.length + front.length < l.length := by rw [hq]; simp
 refine ⟨he, ETy.get_eq (t := .cell) ?_⟩
 have hx : pre.length + front.length = (pre ++ front).length := by simp
 rw [hx, hq, ← List.append_assoc, List.append_assoc, List.getElem?_append_right (Nat.le_refl _), Nat.sub_self]; rfl
theorem BF (c : Cell) (h : 0 ≤ a6 c) : c.op ≤ 23 := by
 unfold a6 cu at h
 simp only [cond_eq_ite] at h
 repeat' split at h
 all_goals simp_all
 all_goals omega
theorem kA (l : List Cell) (vs : List Var) (ss : List Str) (hl : l.length ≤ 32) : ∀ (t : Tm), t.ok → ∀ (pre post : List Cell), l = pre ++ t.flat ++ post →
 ag Tryz.prog 165 [.l .cell l, .i ((pre.length : Int) + t.flat.length - 1), .l .var vs, .l .str ss] [] (cd (t.kind vs ss)) []
 | .leaf c, h, pre, post, hq => by
   obtain ⟨he, hc⟩ := mW (front := []) (pre := pre) (post := post) (c := c) (l := l) (by rw [hq]; simp [Tm.flat])
   have e1 : (pre.length : Int) + ((Tm.leaf c).flat.length : Int) - 1 = ((pre.length + ([] : List Cell).length : Nat) : Int) := by simp [Tm.flat]
   rw [e1]
   generalize pre.length + ([] : List Cell).length = e at *
   let K : Int → Int × Int := fun _ => (0, 0)
   let B : Int → Int := fun _ => 0
   refine dg (cfg := (AG K B)) qV Tryz.func165 (.need (inRg e l.length) (.ite (cu (Cell.op (ETy.get .cell l e)) (Cell.a (ETy.get .cell l e)) (Cell.name (ETy.get .cell l e)) == (0 : Int)) (.ret (.tup [.i (Prod.fst (bN (ETy.get .cell l e) vs ss)), .i (Prod.snd (bN (ETy.get .cell l e) vs ss))]) []) (.ite (cu (Cell.op (ETy.get .cell l e)) (Cell.a (ETy.get .cell l e)) (Cell.name (ETy.get .cell l e)) == (1 : Int)) (.need (ag Tryz.prog (165 : FuncId) [SX.l .cell l, SX.i (IntKind.wrap .i64 ((e : Int) - 1)), SX.l .var vs, SX.l .str ss] [] (cd (K (IntKind.wrap .i64 ((e : Int) - 1)))) []) (.ite (Prod.snd (K (IntKind.wrap .i64 ((e : Int) - 1))) != (0 : Int)) (.ret (.tup [.i 0, .i (Prod.snd (K (IntKind.wrap .i64 ((e : Int) - 1))))]) []) (.ite (Cell.op (ETy.get .cell l e) == (7 : Int) && Prod.fst (K (IntKind.wrap .i64 ((e : Int) - 1))) != (2 : Int)) (.ret (.tup [.i (Prod.fst (K (IntKind.wrap .i64 ((e : Int) - 1)))), .i 0]) []) (.ite (Cell.op (ETy.get .cell l e) == (8 : Int) && Prod.fst (K (IntKind.wrap .i64 ((e : Int) - 1))) == (2 : Int)) (.ret (.tup [.i (Prod.fst (K (IntKind.wrap .i64 ((e : Int) - 1)))), .i 0]) []) (.ite (decide (Cell.op (ETy.get .cell l e) > (8 : Int)) && Prod.fst (K (IntKind.wrap .i64 ((e : Int) - 1))) == (3 : Int)) (.ret (.tup [.i 1, .i 0]) []) (.ret (.tup [.i 0, .i 8]) [])))))) (.need (ag Tryz.prog (199 : FuncId) [SX.l .cell l, SX.i (IntKind.wrap .i64 ((e : Int) - 1))] [] (.x (SX.i (B (IntKind.wrap .i64 ((e : Int) - 1))))) []) (.need (ag Tryz.prog (165 : FuncId) [SX.l .cell l, SX.i (IntKind.wrap .i64 (B (IntKind.wrap .i64 ((e : Int) - 1)) - (1 : Int))), SX.l .var vs, SX.l .str ss] [] (cd (K (IntKind.wrap .i64 (B (IntKind.wrap .i64 ((e : Int) - 1)) - (1 : Int))))) []) (.ite (Prod.snd (K (IntKind.wrap .i64 (B (IntKind.wrap .i64 ((e : Int) - 1)) - (1 : Int)))) != (0 : Int)) (.ret (.tup [.i 0, .i (Prod.snd (K (IntKind.wrap .i64 (B (IntKind.wrap .i64 ((e : Int) - 1)) - (1 : Int)))))]) []) (.need (ag Tryz.prog (165 : FuncId) [SX.l .cell l, SX.i (IntKind.wrap .i64 ((e : Int) - 1)), SX.l .var vs, SX.l .str ss] [] (cd (K (IntKind.wrap .i64 ((e : Int) - 1)))) []) (.ite (Prod.snd (K (IntKind.wrap .i64 ((e : Int) - 1))) != (0 : Int)) (.ret (.tup [.i 0, .i (Prod.snd (K (IntKind.wrap .i64 ((e : Int) - 1))))]) []) (.ite (Prod.fst (K (IntKind.wrap .i64 (B (IntKind.wrap .i64 ((e : Int) - 1)) - (1 : Int)))) != Prod.fst (K (IntKind.wrap .i64 ((e : Int) - 1)))) (.ret (.tup [.i 0, .i 8]) []) (.ret (.tup [.i (Prod.fst (fN (Cell.op (ETy.get .cell l e)) (Prod.fst (K (IntKind.wrap .i64 (B (IntKind.wrap .i64 ((e : Int) - 1)) - (1 : Int))))))), .i (Prod.snd (fN (Cell.op (ETy.get .cell l e)) (Prod.fst (K (IntKind.wrap .i64 (B (IntKind.wrap .i64 ((e : Int) - 1)) - (1 : Int)))))))]) [])))))))))) fun Γ => ?_
   rw [hc]
   have hw : cu c.op c.a c.name = 0 := h
   rw [hw]
   exact ⟨⟨by omega, by omega⟩, fun _ => ⟨rfl, rfl⟩, fun h => Bool.noConfusion h⟩
 | .un c t, ⟨hw, ht⟩, pre, post, hq => by
   obtain ⟨he, hc⟩ := mW (front := t.flat) (pre := pre) (post := post) (c := c) (l := l) hq
   have e1 : (pre.length : Int) + ((Tm.un c t).flat.length : Int) - 1 = ((pre.length + t.flat.length : Nat) : Int) := by simp only [Tm.flat, List.length_append, List.length_cons, List.length_nil]; omega
   rw [e1]
   have hop := fO c (by omega)
   have hw' : cu c.op c.a c.name = 1 := hw
   have e2 : IntKind.wrap .i64 (((pre.length + t.flat.length : Nat) : Int) - 1) = (pre.length : Int) + t.flat.length - 1 := by
    have := t.flat_pos
    rw [cr (by omega) (by omega)]; omega
   have ih := kA l vs ss hl t ht pre ([c] ++ post) (by rw [hq]; simp [Tm.flat])
   rw [← e2] at ih
   generalize pre.length + t.flat.length = e at *
   let K : Int → Int × Int := fun _ => t.kind vs ss
   let B : Int → Int := fun _ => 0
   refine dg (cfg := (AG K B)) qV Tryz.func165 (.need (inRg e l.length) (.ite (cu (Cell.op (ETy.get .cell l e)) (Cell.a (ETy.get .cell l e)) (Cell.name (ETy.get .cell l e)) == (0 : Int)) (.ret (.tup [.i (Prod.fst (bN (ETy.get .cell l e) vs ss)), .i (Prod.snd (bN (ETy.get .cell l e) vs ss))]) []) (.ite (cu (Cell.op (ETy.get .cell l e)) (Cell.a (ETy.get .cell l e)) (Cell.name (ETy.get .cell l e)) == (1 : Int)) (.need (ag Tryz.prog (165 : FuncId) [SX.l .cell l, SX.i (IntKind.wrap .i64 ((e : Int) - 1)), SX.l .var vs, SX.l .str ss] [] (cd (K (IntKind.wrap .i64 ((e : Int) - 1)))) []) (.ite (Prod.snd (K (IntKind.wrap .i64 ((e : Int) - 1))) != (0 : Int)) (.ret (.tup [.i 0, .i (Prod.snd (K (IntKind.wrap .i64 ((e : Int) - 1))))]) []) (.ite (Cell.op (ETy.get .cell l e) == (7 : Int) && Prod.fst (K (IntKind.wrap .i64 ((e : Int) - 1))) != (2 : Int)) (.ret (.tup [.i (Prod.fst (K (IntKind.wrap .i64 ((e : Int) - 1)))), .i 0]) []) (.ite (Cell.op (ETy.get .cell l e) == (8 : Int) && Prod.fst (K (IntKind.wrap .i64 ((e : Int) - 1))) == (2 : Int)) (.ret (.tup [.i (Prod.fst (K (IntKind.wrap .i64 ((e : Int) - 1)))), .i 0]) []) (.ite (decide (Cell.op (ETy.get .cell l e) > (8 : Int)) && Prod.fst (K (IntKind.wrap .i64 ((e : Int) - 1))) == (3 : Int)) (.ret (.tup [.i 1, .i 0]) []) (.ret (.tup [.i 0, .i 8]) [])))))) (.need (ag Tryz.prog (199 : FuncId) [SX.l .cell l, SX.i (IntKind.wrap .i64 ((e : Int) - 1))] [] (.x (SX.i (B (IntKind.wrap .i64 ((e : Int) - 1))))) []) (.need (ag Tryz.prog (165 : FuncId) [SX.l .cell l, SX.i (IntKind.wrap .i64 (B (IntKind.wrap .i64 ((e : Int) - 1)) - (1 : Int))), SX.l .var vs, SX.l .str ss] [] (cd (K (IntKind.wrap .i64 (B (IntKind.wrap .i64 ((e : Int) - 1)) - (1 : Int))))) []) (.ite (Prod.snd (K (IntKind.wrap .i64 (B (IntKind.wrap .i64 ((e : Int) - 1)) - (1 : Int)))) != (0 : Int)) (.ret (.tup [.i 0, .i (Prod.snd (K (IntKind.wrap .i64 (B (IntKind.wrap .i64 ((e : Int) - 1)) - (1 : Int)))))]) []) (.need (ag Tryz.prog (165 : FuncId) [SX.l .cell l, SX.i (IntKind.wrap .i64 ((e : Int) - 1)), SX.l .var vs, SX.l .str ss] [] (cd (K (IntKind.wrap .i64 ((e : Int) - 1)))) []) (.ite (Prod.snd (K (IntKind.wrap .i64 ((e : Int) - 1))) != (0 : Int)) (.ret (.tup [.i 0, .i (Prod.snd (K (IntKind.wrap .i64 ((e : Int) - 1))))]) []) (.ite (Prod.fst (K (IntKind.wrap .i64 (B (IntKind.wrap .i64 ((e : Int) - 1)) - (1 : Int)))) != Prod.fst (K (IntKind.wrap .i64 ((e : Int) - 1)))) (.ret (.tup [.i 0, .i 8]) []) (.ret (.tup [.i (Prod.fst (fN (Cell.op (ETy.get .cell l e)) (Prod.fst (K (IntKind.wrap .i64 (B (IntKind.wrap .i64 ((e : Int) - 1)) - (1 : Int))))))), .i (Prod.snd (fN (Cell.op (ETy.get .cell l e)) (Prod.fst (K (IntKind.wrap .i64 (B (IntKind.wrap .i64 ((e : Int) - 1)) - (1 : Int)))))))]) [])))))))))) fun Γ => ?_
   rw [hc, hw']
   refine ⟨⟨by omega, by omega⟩, fun h => Bool.noConfusion h, fun _ => ⟨fun _ => ⟨ih, ?_⟩, fun h => Bool.noConfusion h⟩⟩
   simp only [Tm.kind, K]
   have hone := t.kind_one vs ss
   generalize t.kind vs ss = kf at *
   obtain ⟨k1, k2⟩ := kf
   refine ⟨fun h => ⟨?_, rfl⟩, fun h => ?_⟩
   · have h' : (k2 != 0) = true := h
     simp only [h', cond_true, cd]
   · have h' : (k2 != 0) = false := h
     have h0 : k2 = 0 := by simpa using h'
     have hk := hone.1 h0
     have hu := Jc c.op k1 (by omega) (by omega) hk.1 hk.2
     simp only [h', cond_false, ← hu]
     refine ⟨fun q1 => ⟨?_, rfl⟩, fun q1 => ⟨fun q2 => ⟨?_, rfl⟩, fun q2 => ⟨fun q3 => ⟨?_, rfl⟩, fun q3 => ⟨?_, rfl⟩⟩⟩⟩ <;> simp only [Gb, *, cond_true, cond_false, cd]
 | .bin c t u, ⟨hw, ht, hu⟩, pre, post, hq => by
   obtain ⟨he, hc⟩ := mW (front := t.flat ++ u.flat) (pre := pre) (post := post) (c := c) (l := l) hq
   have e1 : (pre.length : Int) + ((Tm.bin c t u).flat.length : Int) - 1 = ((pre.length + (t.flat ++ u.flat).length : Nat) : Int) := by simp only [Tm.flat, List.length_append, List.length_cons, List.length_nil]; omega
   rw [e1]
   have hop := fO c (by omega)
   have hw' : cu c.op c.a c.name = 2 := hw
   have htp := t.flat_pos
   have hup := u.flat_pos
   have hq1 : l = pre ++ t.flat ++ (u.flat ++ [c] ++ post) := by rw [hq]; simp [Tm.flat]
   have hq2 : l = (pre ++ t.flat) ++ u.flat ++ ([c] ++ post) := by rw [hq]; simp [Tm.flat]
   have e2 : IntKind.wrap .i64 (((pre.length + (t.flat ++ u.flat).length : Nat) : Int) - 1) = ((pre ++ t.flat).length : Int) + u.flat.length - 1 := by
    simp only [List.length_append] at he ⊢
    rw [cr (by omega) (by omega)]; omega
   have e3 : IntKind.wrap .i64 (((pre ++ t.flat).length : Int) - 1) = (pre.length : Int) + t.flat.length - 1 := by
    simp only [List.length_append] at he ⊢
    rw [cr (by omega) (by omega)]; omega
   have ih1 := kA l vs ss hl t ht pre (u.flat ++ [c] ++ post) hq1
   have ih2 := kA l vs ss hl u hu (pre ++ t.flat) ([c] ++ post) hq2
   have hbeg := AM l u hu (pre ++ t.flat) ([c] ++ post) hq2 hl
   have hne : IntKind.wrap .i64 (((pre ++ t.flat).length : Int) - 1) ≠ IntKind.wrap .i64 (((pre.length + (t.flat ++ u.flat).length : Nat) : Int) - 1) := by
    rw [e2, e3]; simp only [List.length_append]; omega
   rw [← e3] at ih1
   rw [← e2] at ih2 hbeg
   generalize pre.length + (t.flat ++ u.flat).length = e at *
   generalize (pre ++ t.flat).length = x at *
   let K : Int → Int × Int := fun i => if i = IntKind.wrap .i64 ((x : Int) - 1) then t.kind vs ss else u.kind vs ss
   let B : Int → Int := fun _ => (x : Int)
   have k1 : K (IntKind.wrap .i64 ((x : Int) - 1)) = t.kind vs ss := if_pos rfl
   have k2 : K (IntKind.wrap .i64 ((e : Int) - 1)) = u.kind vs ss := if_neg (Ne.symm hne)
   refine dg (cfg := (AG K B)) qV Tryz.func165 (.need (inRg e l.length) (.ite (cu (Cell.op (ETy.get .cell l e)) (Cell.a (ETy.get .cell l e)) (Cell.name (ETy.get .cell l e)) == (0 : Int)) (.ret (.tup [.i (Prod.fst (bN (ETy.get .cell l e) vs ss)), .i (Prod.snd (bN (ETy.get .cell l e) vs ss))]) []) (.ite (cu (Cell.op (ETy.get .cell l e)) (Cell.a (ETy.get .cell l e)) (Cell.name (ETy.get .cell l e)) == (1 : Int)) (.need (ag Tryz.prog (165 : FuncId) [SX.l .cell l, SX.i (IntKind.wrap .i64 ((e : Int) - 1)), SX.l .var vs, SX.l .str ss] [] (cd (K (IntKind.wrap .i64 ((e : Int) - 1)))) []) (.ite (Prod.snd (K (IntKind.wrap .i64 ((e : Int) - 1))) != (0 : Int)) (.ret (.tup [.i 0, .i (Prod.snd (K (IntKind.wrap .i64 ((e : Int) - 1))))]) []) (.ite (Cell.op (ETy.get .cell l e) == (7 : Int) && Prod.fst (K (IntKind.wrap .i64 ((e : Int) - 1))) != (2 : Int)) (.ret (.tup [.i (Prod.fst (K (IntKind.wrap .i64 ((e : Int) - 1)))), .i 0]) []) (.ite (Cell.op (ETy.get .cell l e) == (8 : Int) && Prod.fst (K (IntKind.wrap .i64 ((e : Int) - 1))) == (2 : Int)) (.ret (.tup [.i (Prod.fst (K (IntKind.wrap .i64 ((e : Int) - 1)))), .i 0]) []) (.ite (decide (Cell.op (ETy.get .cell l e) > (8 : Int)) && Prod.fst (K (IntKind.wrap .i64 ((e : Int) - 1))) == (3 : Int)) (.ret (.tup [.i 1, .i 0]) []) (.ret (.tup [.i 0, .i 8]) [])))))) (.need (ag Tryz.prog (199 : FuncId) [SX.l .cell l, SX.i (IntKind.wrap .i64 ((e : Int) - 1))] [] (.x (SX.i (B (IntKind.wrap .i64 ((e : Int) - 1))))) []) (.need (ag Tryz.prog (165 : FuncId) [SX.l .cell l, SX.i (IntKind.wrap .i64 (B (IntKind.wrap .i64 ((e : Int) - 1)) - (1 : Int))), SX.l .var vs, SX.l .str ss] [] (cd (K (IntKind.wrap .i64 (B (IntKind.wrap .i64 ((e : Int) - 1)) - (1 : Int))))) []) (.ite (Prod.snd (K (IntKind.wrap .i64 (B (IntKind.wrap .i64 ((e : Int) - 1)) - (1 : Int)))) != (0 : Int)) (.ret (.tup [.i 0, .i (Prod.snd (K (IntKind.wrap .i64 (B (IntKind.wrap .i64 ((e : Int) - 1)) - (1 : Int)))))]) []) (.need (ag Tryz.prog (165 : FuncId) [SX.l .cell l, SX.i (IntKind.wrap .i64 ((e : Int) - 1)), SX.l .var vs, SX.l .str ss] [] (cd (K (IntKind.wrap .i64 ((e : Int) - 1)))) []) (.ite (Prod.snd (K (IntKind.wrap .i64 ((e : Int) - 1))) != (0 : Int)) (.ret (.tup [.i 0, .i (Prod.snd (K (IntKind.wrap .i64 ((e : Int) - 1))))]) []) (.ite (Prod.fst (K (IntKind.wrap .i64 (B (IntKind.wrap .i64 ((e : Int) - 1)) - (1 : Int)))) != Prod.fst (K (IntKind.wrap .i64 ((e : Int) - 1)))) (.ret (.tup [.i 0, .i 8]) []) (.ret (.tup [.i (Prod.fst (fN (Cell.op (ETy.get .cell l e)) (Prod.fst (K (IntKind.wrap .i64 (B (IntKind.wrap .i64 ((e : Int) - 1)) - (1 : Int))))))), .i (Prod.snd (fN (Cell.op (ETy.get .cell l e)) (Prod.fst (K (IntKind.wrap .i64 (B (IntKind.wrap .i64 ((e : Int) - 1)) - (1 : Int)))))))]) [])))))))))) fun Γ => ?_
   have hB : B (IntKind.wrap .i64 ((e : Int) - 1)) = (x : Int) := rfl
   rw [hc, hw', hB, k1, k2]
   refine ⟨⟨by omega, by omega⟩, fun h => Bool.noConfusion h, fun _ => ⟨fun h => Bool.noConfusion h, fun _ => ⟨hbeg, ih1, ?_⟩⟩⟩
   simp only [Tm.kind]
   have hone := t.kind_one vs ss
   have hone2 := u.kind_one vs ss
   clear_value K B
   generalize t.kind vs ss = kf at *
   generalize u.kind vs ss = kg at *
   obtain ⟨a1, a2⟩ := kf
   obtain ⟨b1, b2⟩ := kg
   refine ⟨fun h => ⟨?_, rfl⟩, fun h => ⟨ih2, fun h3 => ⟨?_, rfl⟩, fun h3 => ?_⟩⟩
   · have h' : (a2 != 0) = true := h
     simp only [h', cond_true, cd]
   · have h' : (a2 != 0) = false := h
     have h3' : (b2 != 0) = true := h3
     simp only [h', h3', cond_true, cond_false, cd]
   · have h' : (a2 != 0) = false := h
     have h3' : (b2 != 0) = false := h3
     have h0 : a2 = 0 := by simpa using h'
     have h0' : b2 = 0 := by simpa using h3'
     have hk := hone.1 h0
     have hk2 := hone2.1 h0'
     have hop' : c.op ≤ 23 := BF c (by omega)
     have hb := Hs c.op a1 b1 (by omega) hop' hk.1 hk.2 hk2.1 hk2.2
     simp only [h', h3', cond_false, ← hb]
     refine ⟨fun q1 => ⟨?_, rfl⟩, fun q1 => ⟨?_, rfl⟩⟩ <;> simp only [Br, q1, cond_true, cond_false, cd]
theorem qZ (l : List Cell) (vs : List Var) (ss : List Str) : ag Tryz.prog 116 [.l .cell l, .l .var vs, .l .str ss] [] (cd (bZ l vs ss)) [] := by
 let K : Int → Int × Int := fun _ => bZ l vs ss
 refine dg (cfg := (Gs K)) Fv Tryz.func116 (.ite (!dx l) (.ret (.tup [.i 0, .i 1]) []) (.need (ag Tryz.prog (165 : FuncId) [SX.l .cell l, SX.i (IntKind.wrap .i64 ((l.length : Int) - 1)), SX.l .var vs, SX.l .str ss] [] (cd (K (IntKind.wrap .i64 ((l.length : Int) - 1)))) []) (.ret (.tup [.i (Prod.fst (K (IntKind.wrap .i64 ((l.length : Int) - 1)))), .i (Prod.snd (K (IntKind.wrap .i64 ((l.length : Int) - 1))))]) []))) fun Γ => ?_
 refine ⟨fun h => ⟨by simp only [bZ, h, cond_true, cd], rfl⟩, fun h => ?_⟩
 have h' : dx l = true := by simpa using h
 obtain ⟨h32, t, ht, hq⟩ := Et h'
 have hk : bZ l vs ss = t.kind vs ss := by rw [← hq]; exact yN vs ss ht (by rw [hq]; exact h32)
 have htp := t.flat_pos
 have ih := kA l vs ss h32 t ht [] [] (by rw [List.nil_append, List.append_nil, hq])
 have e : ((([] : List Cell).length : Nat) : Int) + t.flat.length - 1 = IntKind.wrap .i64 ((l.length : Int) - 1) := by
  rw [hq] at htp ⊢
  rw [cr (by omega) (by omega)]; simp
 rw [e, ← hk] at ih
 exact ⟨ih, rfl, rfl⟩
def uc : Ent := (116, fun
 | [.c (.pd (.lst .cell l)), .c (.pd (.lst .var vs)), .c (.pd (.lst .str ss))], [] => some (none, cd (bZ l vs ss), [])
 | _, _ => none)
theorem xF : EntOk Tryz.prog uc := entOk fun vs ck => by
 unfold uc; dsimp only; split
 · rename_i l vs ss; exact entS fun hp => qZ l vs ss
 · exact entN
end Go.Proofs.YtcopfgbbjdefbaaGreatDoor
