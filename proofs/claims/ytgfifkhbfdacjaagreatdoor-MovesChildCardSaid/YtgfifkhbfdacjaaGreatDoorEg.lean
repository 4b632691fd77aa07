/- Contracts: slices.Contains on ints; conf: over. Conditions: a valid chart, a legal list. Contracts: moves: one, right, Right. Conditions: sizes. -/
import Derived.Test.YtgfifkhbfdacjaaGreatDoorCe
import Derived.Test.YtgfifkhbfdacjaaGreatDoorEf
import Derived.Test.YtgfifkhbfdacjaaGreatDoorSk
import Derived.Test.YtgfifkhbfdacjaaGreatDoorVl
namespace Go.Proofs.YtgfifkhbfdacjaaGreatDoor
open Go Go.Ev
set_option maxRecDepth 100000
abbrev zNy1:List PI:=[.code [1,0,1,0,0],.inLoop [1,0,1,0,0],.inBlock 0,.code [1,1]]
variable (l:List Int) (s:Int)
theorem G5 (Γ:Ctx) (hl:l.length≤maxLen):∀ (n k:Nat),l.length - k≤n→k≤l.length →
 J Tryz.prog 108 (au Tryz.f108) Γ (Eq2 (.x (.i (aE (fun x:Int=>s==x) (l.drop k) k))) []) zNy1 ({ n:=19,fr:=[(0,.p (.lst .int l)),(1,.i s),(4,.i 0),(7,.i l.length),(8,.i k)],ck:=[] }):=by
 intro n
 induction n with
 | zero=>?_
 | succ n ih=>?_
 all_goals
  intro k hn hk
  refine jg aW Tryz.func108 (.ite (decide ((k:Int)<(l.length:Int))) (.need (inRg k l.length) (.ite (s==ETy.get .int l k) (.ret (.i k) []) (.stop zNy1 { n:=19,fr:=[(0,.p (.lst .int l)),(1,.i s),(4,.i 0),(7,.i l.length),(8,.i (IntKind.wrap .i64 ((k:Int)+1)))],ck:=[] }))) (.ret (.i (-1:Int)) [])) ?_
  refine ⟨fun hlt=>?_,fun hge=>⟨?_,rfl⟩⟩
  · have hk':k<l.length:=by have:=of_decide_eq_true hlt; omega
    rw [bx (t:=.int) hk']
    refine ⟨by omega,?_⟩
    generalize ETy.get .int l k=v
    refine ⟨fun hb=>⟨?_,rfl⟩,fun hb=>?_⟩
    · simp only [aE,hb,cond_true]
    · simp only [aE,hb,cond_false]
      rw [aV (aC hk' hl)]
      first
      | (exfalso; omega)
      | exact ih (k+1) (by omega) (by omega)
  · rw [bL (by have:=of_decide_eq_false hge; omega)]; rfl
theorem IK:ah Tryz.prog 108 [.l .int l,.i s] [] (.x (.i (aE (fun x:Int=>s==x) l 0))) []:=by
 refine dg aW Tryz.func108 (.stop zNy1 { n:=19,fr:=[(0,.p (.lst .int l)),(1,.i s),(4,.i 0),(7,.i l.length),(8,.i 0)],ck:=[] }) fun Γ=>?_
 exact J.len 0 rfl fun hl=>G5 l s Γ hl l.length 0 (by omega) (by omega)
def Dx:Ent:=(108,fun
 | [.c (.pd (.lst .int l)),.c (.pd (.int .i64 s))],[]=>some (none,.x (.c (.pd (.int .i64 (aE (fun x:Int=>s==x) l 0)))),[])
 | _,_=>none)
theorem MB:EntOk Tryz.prog Dx:=entOk fun vs ck=>by
 unfold Dx; dsimp only; split
 · rename_i l s; exact entS fun hp=>IK l s
 · exact entN
def Eg:Cfg:=⟨aX,[Dx]⟩
theorem FS:ag Tryz.prog Eg.tab:=(ag.cons MB ag.nil)
theorem K0:(l.any fun x=>s==x)=inB l s:=by
 unfold inB
 congr 1; funext x
 cases h:x==s
 · simp only [beq_eq_false_iff_ne,ne_eq] at h ⊢; exact fun e=>h e.symm
 · rw [eq_of_beq h]; simp
theorem Hd:ah Tryz.prog 48 [.l .int l,.i s] [] (.x (.b (inB l s))) []:=by
 rw [← K0]
 refine dg FS Tryz.func48 (.ret (.p (.bool (decide (aE (fun x=>s==x) l (0:Int)≥0)))) []) fun Γ=>⟨?_,rfl⟩
 rw [iy _ _ _ (by omega)]
def sV:Ent:=(48,fun
 | [.c (.pd (.lst .int l)),.c (.pd (.int .i64 s))],[]=>some (none,.x (.c (.pd (.bool (inB l s)))),[])
 | _,_=>none)
theorem sS:EntOk Tryz.prog sV:=entOk fun vs ck=>by
 unfold sV; dsimp only; split
 · rename_i l s; exact entS fun hp=>Hd l s
 · exact entN
end Go.Proofs.YtgfifkhbfdacjaaGreatDoor
namespace Go.Proofs.YtgfifkhbfdacjaaGreatDoor
open Go Go.Ev
set_option maxRecDepth 100000
abbrev zEg2:List PI:=[.code [1,1,0,1,0,0],.inLoop [1,1,0,1,0,0],.inBlock 0,.code [1,1,1]]
variable (a:List Int) (c:Chart) (ps:List Past) (vs:List SX) (b:List Int) (ck:List Chunk) (k:Nat)
theorem JS (hab:a.length=b.length) (Γ:Ctx) (hl:a.length≤maxLen):∀ (n k:Nat),a.length - k≤n→k≤a.length →
 J Tryz.prog 144 (au Tryz.f144) Γ (Eq2 (.x (.b (a.drop k==b.drop k))) []) zEg2 ({ n:=26,fr:=[(0,.p (.lst .int a)),(1,.p (.lst .int b)),(4,.p (.bool false)),(12,.i a.length),(13,.i ((k:Int)))],ck:=[],kn:=[4] }):=by
 intro n
 induction n with
 | zero=>?_
 | succ n ih=>?_
 all_goals
  intro k hn hk
  refine jg aW Tryz.func144 (.ite (decide ((k:Int)<(a.length:Int))) (.need (inRg k a.length) (.need (inRg k b.length) (.ite (ETy.get .int a k != ETy.get .int b k) (.ret (.p (.bool false)) []) (.stop zEg2 { n:=26,fr:=[(0,.p (.lst .int a)),(1,.p (.lst .int b)),(4,.p (.bool false)),(12,.i a.length),(13,.i (IntKind.wrap .i64 ((k:Int)+1)))],ck:=[] })))) (.ret (.p (.bool true)) [])) ?_
  refine ⟨fun hlt=>?_,fun hge=>?_⟩
  · have hk':k<a.length:=by have:=of_decide_eq_true hlt; omega
    rw [bx (t:=.int) (l:=a) hk',bx (t:=.int) (l:=b) (by omega)]
    refine ⟨⟨by omega,by omega⟩,⟨by omega,by omega⟩,?_⟩
    generalize ETy.get .int a k=v
    generalize ETy.get .int b k=u
    refine ⟨fun hb=>⟨?_,rfl⟩,fun hb=>?_⟩
    · have hb':(v==u)=false:=nt hb
      rw [eS,hb',bj]
    · have hb':(v==u)=true:=nf hb
      rw [eS,hb',aZ,aV (aC hk' hl)]
      first
      | (exfalso; omega)
      | exact J.kn [4] (ih (k+1) (by omega) (by omega))
  · rw [bL (l:=a) (by have:=of_decide_eq_false hge; omega),bL (l:=b) (by have:=of_decide_eq_false hge; omega)]; exact ⟨rfl,rfl⟩
theorem Jr:ah Tryz.prog 144 [.l .int a,.l .int b] [] (.x (.b (a==b))) []:=by
 refine dg aW Tryz.func144 (.ite ((a.length:Int) != (b.length:Int)) (.ret (.p (.bool false)) []) (.stop zEg2 { n:=26,fr:=[(0,.p (.lst .int a)),(1,.p (.lst .int b)),(4,.p (.bool false)),(12,.i a.length),(13,.i 0)],ck:=[],kn:=[4] })) fun Γ=>?_
 refine ⟨fun h=>?_,fun h=>?_⟩
 · have hne:a.length≠b.length:=by
    have:(a.length:Int)≠b.length:=by simpa using h
    omega
   rw [show (a==b)=false from by rw [beq_eq_false_iff_ne]; exact fun e=>hne (by rw [e])]; exact ⟨rfl,rfl⟩
 · have hab:a.length=b.length:=by
    have:(a.length:Int)=b.length:=by simpa using h
    omega
   exact J.len 0 rfl fun hl=>JS a b hab Γ hl a.length 0 (by omega) (by omega)
def BV:Ent:=(144,fun
 | [.c (.pd (.lst .int a)),.c (.pd (.lst .int b))],[]=>some (none,.x (.c (.pd (.bool (a==b)))),[])
 | _,_=>none)
theorem Le:EntOk Tryz.prog BV:=entOk fun vs ck=>by
 unfold BV; dsimp only; split
 · rename_i a b; exact entS fun hp=>Jr a b
 · exact entN
/-! ### guards that fail -/
def Cd:Ent:=(1000001004,fun _ _=>none)
def wb:Ent:=(1000001015,fun _ _=>none)
theorem Bf (p:Option Prop) (ret:SV) (ck':List Chunk) (h:Cd.2 vs ck=some (p,ret,ck')) (_:Holds p):ah Tryz.prog Cd.1 vs ck ret ck':=by cases h
theorem wy (p:Option Prop) (ret:SV) (ck':List Chunk) (h:wb.2 vs ck=some (p,ret,ck')) (_:Holds p):ah Tryz.prog wb.1 vs ck ret ck':=by cases h
def Ce:Ent:=(102,fun
 | [.c (.pd (.lst .stat l)),.c (.pd (.int .i64 i))],[]=>some (some (False),.x (.c (.pd (.v (.slice none 0 0)))),[])
 | _,_=>none)
theorem Lc:EntOk Tryz.prog Ce:=entOk fun vs ck=>by
 unfold Ce; dsimp only; split
 · rename_i l i; exact entS fun hp=>hp.elim
 · exact entN
def DH:Ent:=(48,fun
 | [.c (.pd (.v (.slice none 0 0))),.c (.pd (.int .i64 s))],[]=>some (some (False),.x (.c (.pd (.bool false))),[])
 | _,_=>none)
theorem MG:EntOk Tryz.prog DH:=entOk fun vs ck=>by
 unfold DH; dsimp only; split
 · rename_i s; exact entS fun hp=>hp.elim
 · exact entN
def Cw:Ent:=(41,fun
 | [.agg [.pd (.str a),.pd (.lst .str b),.pd (.lst .var c),.pd (.lst .stat d),.pd (.lst .tran e)],.c (.pd (.int .i64 k)),.c (.pd (.lst .int ts))],[]=>some (some (False),.x (.c (.pd (.v (.slice none 0 0)))),[])
 | _,_=>none)
theorem Ll:EntOk Tryz.prog Cw:=entOk fun vs ck=>by
 unfold Cw; dsimp only; split
 · rename_i a b c d e k ts; exact entS fun hp=>hp.elim
 · exact entN
def DL:Ent:=(145,fun
 | [.agg [.pd (.str a),.pd (.lst .str b),.pd (.lst .var c),.pd (.lst .stat d),.pd (.lst .tran e)],.c (.pd (.v (.slice none 0 0)))],[]=>some (some (False),.x (.c (.pd (.v (.slice none 0 0)))),[])
 | _,_=>none)
theorem MQ:EntOk Tryz.prog DL:=entOk fun vs ck=>by
 unfold DL; dsimp only; split
 · rename_i a b c d e; exact entS fun hp=>hp.elim
 · exact entN
def CT:Ent:=(144,fun
 | [.c (.pd (.v (.slice none 0 0))),.c (.pd (.lst .int b))],[]=>some (some (False),.x (.c (.pd (.bool false))),[])
 | _,_=>none)
theorem LG:EntOk Tryz.prog CT:=entOk fun vs ck=>by
 unfold CT; dsimp only; split
 · rename_i b; exact entS fun hp=>hp.elim
 · exact entN
def FJ:Cfg:=⟨aX,[ji,jB]⟩
theorem Gf:ag Tryz.prog FJ.tab:=(ag.cons iS (ag.cons kG ag.nil))
def Fp:Cfg:=⟨[],[oj,oe,Cd,wb,ji,Ce,DH]⟩
theorem DT:ag Tryz.prog Fp.tab:=(ag.cons kP (ag.cons kN (ag.cons Bf (ag.cons wy (ag.cons iS (ag.cons Lc (ag.cons MG ag.nil)))))))
def GV:Cfg:=⟨aX,[oj,oe,wb,ji,ko,sV]⟩
theorem Gv:ag Tryz.prog GV.tab:=(ag.cons kP (ag.cons kN (ag.cons wy (ag.cons iS (ag.cons jZ (ag.cons sS ag.nil))))))
def F9:Cfg:=⟨aX,[oj,oe,ji,ko,sV]⟩
theorem Fz:ag Tryz.prog F9.tab:=(ag.cons kP (ag.cons kN (ag.cons iS (ag.cons jZ (ag.cons sS ag.nil)))))
def Fc:Cfg:=⟨[],[oj,oe,Cd,Cw,DL,CT]⟩
theorem Ff:ag Tryz.prog Fc.tab:=(ag.cons kP (ag.cons kN (ag.cons Bf (ag.cons Ll (ag.cons MQ (ag.cons LG ag.nil))))))
def GU:Cfg:=⟨aX,[oj,oe,rR,nj,BV]⟩
theorem Gh:ag Tryz.prog GU.tab:=(ag.cons kP (ag.cons kN (ag.cons yp (ag.cons Au (ag.cons Le ag.nil)))))
theorem l4 {A:Prop} (h:(!true)=true):A:=absurd h (by decide)
abbrev zEg1 (a:Chart):Chunk:=.cells [.pd (.str a.name),.pd (.lst .str a.events),.pd (.lst .var a.vars),.pd (.lst .stat a.states),.pd (.lst .tran a.trans)] 27
theorem DX (p:Past) (t:Tre c.states):ah Tryz.prog 96 [.e .chart c,.e .past p] [] (.x (.b (cj c.states p))) []:=by
 have hfew:=t.shp.few
 have hl:c.states.length≤maxLen:=by unfold maxLen; omega
 have hst:(decide (p.state<0)||decide (p.state≥(c.states.length:Int)))=false→0≤p.state∧p.state<(c.states.length:Int):=fun h=>by
  rw [av] at h
  have:=of_decide_eq_false h.1
  have:=of_decide_eq_false h.2
  omega
 have eN:((p.set.length:Int)==1)=(p.set.length==1):=by
  rw [bn,beq_iff_eq,beq_iff_eq]; omega
 have eG:decide ((p.set.length:Int)>0)=decide (0<p.set.length):=by
  rw [bn,decide_eq_true_eq,decide_eq_true_eq]; omega
 refine dg Gf Tryz.func96 (let x1:ST:={ n:=85,fr:=[(2,.x (.c (.loc 0 0))),(3,.x (.c (.loc 1 0))),(4,.p (.bool false)),(5,.i (bg c.states (Past.state p)))],ck:=[zEg1 c,.cells [.i (Past.state p),.pd (.lst .int (Past.set p))] 40],kn:=[4] }; let x2:=(c.states.length:Int); let x3:=(ETy.get .stat c.states ((Past.state p).toNat)); .need ((decide (Past.state p<(0:Int))||decide (Past.state p≥x2))=false→(0:Int)≤Past.state p∧Past.state p<x2) (.ite (decide (Past.state p<(0:Int))||decide (Past.state p≥x2) || !aM (Stat.kind x3)) (.ret (.p (.bool false)) []) (.need (c.states.length≤maxLen) (.need ((0:Int)≤Past.state p∧Past.state p<x2) (.ite (Stat.kind x3==(5:Int)) (.stop [.code [1,1,1,0,1,0,0],.code [1,1,1,0,1,0,1],.code [1,1,1,1]] x1) (.stop [.code [1,1,1,1,0],.code [1,1,1,1,1]] x1)))))) fun Γ=>?_
 conv=>zeta
 unfold cj
 refine ⟨hst,fun hb=>?_,fun hb=>?_⟩
 · have hb':(decide (p.state<0)||decide (p.state≥(c.states.length:Int)) || !aM (ETy.get .stat c.states p.state.toNat).kind)=true:=hb
   rw [if_pos hb']; exact ⟨rfl,rfl⟩
 · have hb':(decide (p.state<0)||decide (p.state≥(c.states.length:Int)) || !aM (ETy.get .stat c.states p.state.toNat).kind)=false:=hb
   have hb2:=hb'
   rw [av] at hb2
   have hin:=hst hb2.1
   have hi:p.state.toNat<c.states.length:=by omega
   have hp:aM (knd c.states p.state.toNat)=true:=by simpa using hb2.2
   obtain ⟨u,hu,hui,hul,hk2⟩:=ti t hi hp
   have hpar:bg c.states p.state=(u:Int):=by
    obtain ⟨q,hq⟩:=aA hin.1
    rw [hq,jd t.right (by omega),dZ t.shp (by omega)]
    rw [hq,ai] at hu; exact hu
   rw [if_neg (by rw [hb']; decide),hu,ai]
   refine ⟨hl,hin,fun h5=>?_,fun h5=>?_⟩
   · have h5':((ETy.get .stat c.states p.state.toNat).kind==5)=true:=h5
     rw [if_pos h5']
     cases h1:(p.set.length==1)
     · refine jg DT Tryz.func96 (let x1:=(((4,45,true,cV true (!true) none).2).2); let x2:=(↑((Past.set p).length):Int); let x3:=(((15,56,true,cV true (!true) none).2).2); .need ((x2==1) = !true) (.need (x1.2→False) (.need (x1.2→(0:Int)≤0∧(0:Int)<x2) (.need (x1.2→False) (.need ((!true&&false) = !true) (.need (x3.2→(0:Int)≤0∧(0:Int)<x2) (.need (x3.2→(0:Int)≤ETy.get .int (Past.set p) 0∧ETy.get .int (Past.set p) 0<(c.states.length:Int)) (.ret (.p (.bool false)) [])))))))) ?_
       conv=>zeta
       exact ⟨eN.trans h1,fun h=>l4 h,fun h=>l4 h,fun h=>l4 h,rfl,fun h=>l4 h,fun h=>l4 h,rfl,rfl⟩
     · have hlen:0<p.set.length:=by have:=eq_of_beq h1; omega
       cases h2:inB (ba c.states u) (ETy.get .int p.set 0)
       · refine jg Gv Tryz.func96 (let x1:=(↑((Past.set p).length):Int); let x2:=(((15,56,true,cV true (!true) none).2).2); let x3:=(bg c.states (Past.state p)); .need ((x1==1)=true) (.need (bU c.states x3=true) (.need ((0:Int)≤0∧(0:Int)<x1) (.need ((true&&inB (ba c.states (x3.toNat)) (ETy.get .int (Past.set p) 0)) = !true) (.need (x2.2→(0:Int)≤0∧(0:Int)<x1) (.need (x2.2→(0:Int)≤ETy.get .int (Past.set p) 0∧ETy.get .int (Past.set p) 0<(c.states.length:Int)) (.ret (.p (.bool false)) []))))))) ?_
         conv=>zeta
         exact ⟨eN.trans h1,by rw [hpar,fu t.right hul],⟨by omega,by omega⟩,by rw [hpar,ai,h2]; rfl,fun h=>l4 h,fun h=>l4 h,rfl,rfl⟩
       · have hk:=(dA t.shp hul _).1 ((eg _ _).1 h2)
         obtain ⟨m,hm1,hm2,_⟩:=hk
         have hx:(0:Int)≤ETy.get .int p.set 0∧(ETy.get .int p.set 0:Int)<(c.states.length:Int):=by rw [hm1]; exact ⟨Int.natCast_nonneg m,Int.ofNat_lt.2 hm2⟩
         refine jg Fz Tryz.func96 (.need (((↑((Past.set p).length):Int)==1)=true) (.need (bU c.states (bg c.states (Past.state p))=true) (.need ((0:Int)≤0∧(0:Int)<(↑((Past.set p).length):Int)) (.need ((true&&inB (ba c.states ((bg c.states (Past.state p)).toNat)) (ETy.get .int (Past.set p) 0))=true) (.need ((0:Int)≤0∧(0:Int)<(↑((Past.set p).length):Int)) (.need ((0:Int)≤ETy.get .int (Past.set p) 0∧ETy.get .int (Past.set p) 0<(c.states.length:Int)) (.ret (.p (.bool (true && !aM (Stat.kind (ETy.get .stat c.states ((ETy.get .int (Past.set p) 0).toNat)))))) []))))))) ?_
         exact ⟨eN.trans h1,by rw [hpar,fu t.right hul],⟨by omega,by omega⟩,by rw [hpar,ai,h2]; rfl,⟨by omega,by omega⟩,hx,rfl,rfl⟩
   · have h5':((ETy.get .stat c.states p.state.toNat).kind==5)=false:=h5
     rw [if_neg (by rw [h5']; decide)]
     cases h1:decide (0<p.set.length)
     · refine jg Ff Tryz.func96 (let x1:=((((4,73,true,cV true (!true) none).2).2).2→False); .need (decide ((↑((Past.set p).length):Int)>0) = !true) (.need x1 (.need x1 (.need x1 (.ret (.p (.bool false)) []))))) ?_
       conv=>zeta
       exact ⟨eG.trans h1,fun h=>l4 h,fun h=>l4 h,fun h=>l4 h,rfl,rfl⟩
     · have hd:=pt t (iW t p.set) (c.states.length+1) u hul
       have he:=cN c.states hul
       have hdl:=Bj t p.set hul
       have hdd:∀ y∈dnM c.states p.set u,(0:Int)≤y∧y<(c.states.length:Int):=fun y hy=>by have:=hd.2 y hy; omega
       refine jg Gh Tryz.func96 (.need (decide ((↑((Past.set p).length):Int)>0)=true) (.need (Tre c.states∧(0:Int)≤bg c.states (Past.state p)∧bg c.states (Past.state p)<(c.states.length:Int)) (.need ((dnM c.states (Past.set p) ((bg c.states (Past.state p)).toNat)).length≤1000∧∀ (y:ETy.den .int),y∈dnM c.states (Past.set p) ((bg c.states (Past.state p)).toNat)→(0:ETy.den .int)≤y∧y<(c.states.length:Int)) (.ret (.p (.bool (true&&b9 c.states (dnM c.states (Past.set p) ((bg c.states (Past.state p)).toNat))==Past.set p))) [])))) ?_
       rw [hpar,ai]
       exact ⟨eG.trans h1,⟨t,by omega,by omega⟩,⟨by omega,hdd⟩,rfl,rfl⟩
def vS:Ent:=(96,fun
 | [.agg [.pd (.str a),.pd (.lst .str b),.pd (.lst .var c),.pd (.lst .stat d),.pd (.lst .tran e)],.agg [.pd (.int .i64 s),.pd (.lst .int l)]],[]=>some (some (Tre d),.x (.c (.pd (.bool (cj d ⟨s,l⟩)))),[])
 | _,_=>none)
theorem JQ:EntOk Tryz.prog vS:=entOk fun vs ck=>by
 unfold vS; dsimp only; split
 · rename_i a b c d e s l; exact entS fun hp=>DX ⟨a,b,c,d,e⟩ ⟨s,l⟩ hp
 · exact entN
def yC:Cfg:=⟨aX,[vS]⟩
theorem uS:ag Tryz.prog yC.tab:=(ag.cons JQ ag.nil)
def nc:Option Int:=match k with
 | 0=>none
 | k+1=>some (ETy.get .past ps k).state
theorem MY (hk:k<ps.length) (hm:ps.length≤maxLen):(decide ((k:Int)>0)&&decide ((ETy.get .past ps k).state≤(ETy.get .past ps (IntKind.wrap .i64 ((k:Int) - 1)).toNat).state)) = !qC (nc ps k) (ETy.get .past ps k).state:=by
 cases k with
 | zero=>rfl
 | succ k =>
   have e:IntKind.wrap .i64 (((k+1:Nat):Int) - 1)=(k:Int):=by
    have h2:=aC hk hm
    rw [show (((k+1:Nat):Int) - 1)=(k:Int) by omega,cn (n:=(k:Int)) (by omega) (by omega)]
   rw [e,ai,decide_eq_true (show ((k+1:Nat):Int)>0 by omega),aZ]
   show decide (_≤_) = !decide (_<_)
   rw [bn,decide_eq_true_eq,aK,decide_eq_false_iff_not]
   omega
abbrev zEg3:List PI:=[.code [1,0,1,0,0],.inLoop [1,0,1,0,0],.inBlock 0,.code [1,1]]
theorem KU (t:Tre c.states) (ps:List Past) (Γ:Ctx) (hm:ps.length≤maxLen):∀ (n k:Nat),ps.length - k≤n→k≤ps.length →
 J Tryz.prog 34 (au Tryz.f34) Γ (Eq2 (.x (.b (b8 (cj c.states) (nc ps k) (ps.drop k)))) []) zEg3 ({ n:=34,fr:=[(1,.p (.lst .past ps)),(2,.x (.c (.loc 0 0))),(4,.p (.bool false)),(7,.p (.lst .past ps)),(8,.i ps.length),(9,.i ((k:Int)))],ck:=[zEg1 c],kn:=[4] }):=by
 intro n
 induction n with
 | zero=>?_
 | succ n ih=>?_
 all_goals
  intro k hn hk
  refine jg uS Tryz.func34 (let x1:=(Past.state (ETy.get .past ps k)≤Past.state (ETy.get .past ps ((IntKind.wrap .i64 ((k:Int) - 1)).toNat))); .ite (decide ((k:Int)<(ps.length:Int))) (.need (inRg k ps.length) (.need ((((2,16,true,cV true (decide ((k:Int)>0)) none).2).2).2→(0:Int)≤IntKind.wrap .i64 ((k:Int) - 1)∧IntKind.wrap .i64 ((k:Int) - 1)<(ps.length:Int)) (.need ((((13,27,false,cV false (decide ((k:Int)>0)&&decide x1) none).2).2).2→Tre c.states) (.ite (decide ((k:Int)>0)&&decide x1 || !cj c.states (ETy.get .past ps k)) (.ret (.p (.bool false)) []) (.stop zEg3 { n:=34,fr:=[(1,.p (.lst .past ps)),(2,.x (.c (.loc 0 0))),(4,.p (.bool false)),(7,.p (.lst .past ps)),(8,.i ps.length),(9,.i (IntKind.wrap .i64 ((k:Int)+1)))],ck:=[zEg1 c] }))))) (.ret (.p (.bool true)) [])) ?_
  conv=>zeta
  refine ⟨fun hlt=>?_,fun hge=>?_⟩
  · have hk':k<ps.length:=by have:=of_decide_eq_true hlt; omega
    have ed:ps.drop k=ETy.get .past ps k::ps.drop (k+1):=bx (t:=.past) (l:=ps) hk'
    have hbe:=MY ps k hk' hm
    have e1:nc ps (k+1)=some (ETy.get .past ps k).state:=rfl
    have h2:=aC hk' hm
    rw [ed,lZ,← e1]
    refine ⟨⟨by omega,by omega⟩,fun h=>?_,fun _=>t,fun hb=>?_,fun hb=>?_⟩
    · have h':decide ((k:Int)>0)=true:=h
      have:=of_decide_eq_true h'
      rw [cn (n:=(k:Int) - 1) (by omega) (by omega)]
      omega
    · have hb':(decide ((k:Int)>0)&&decide ((ETy.get .past ps k).state≤(ETy.get .past ps (IntKind.wrap .i64 ((k:Int) - 1)).toNat).state) || !cj c.states (ETy.get .past ps k))=true:=hb
      rw [hbe] at hb'
      have:(qC (nc ps k) (ETy.get .past ps k).state&&cj c.states (ETy.get .past ps k))=false:=by
       cases h1:qC (nc ps k) (ETy.get .past ps k).state <;> cases h2:cj c.states (ETy.get .past ps k) <;> simp [h1,h2] at hb' ⊢
      rw [this]; exact ⟨rfl,rfl⟩
    · have hb':(decide ((k:Int)>0)&&decide ((ETy.get .past ps k).state≤(ETy.get .past ps (IntKind.wrap .i64 ((k:Int) - 1)).toNat).state) || !cj c.states (ETy.get .past ps k))=false:=hb
      rw [hbe] at hb'
      have:(qC (nc ps k) (ETy.get .past ps k).state&&cj c.states (ETy.get .past ps k))=true:=by
       cases h1:qC (nc ps k) (ETy.get .past ps k).state <;> cases h2:cj c.states (ETy.get .past ps k) <;> simp [h1,h2] at hb' ⊢
      rw [this,aZ,aV h2]
      first
      | (exfalso; omega)
      | exact J.kn [4] (ih (k+1) (by omega) (by omega))
  · rw [bL (l:=ps) (by have:=of_decide_eq_false hge; omega)]; exact ⟨rfl,rfl⟩
theorem Ag (t:Tre c.states):ah Tryz.prog 34 [.e .chart c,.l .past ps] [] (.x (.b (b8 (cj c.states) none ps))) []:=by
 refine dg uS Tryz.func34 (.stop zEg3 { n:=34,fr:=[(1,.p (.lst .past ps)),(2,.x (.c (.loc 0 0))),(4,.p (.bool false)),(7,.p (.lst .past ps)),(8,.i ps.length),(9,.i 0)],ck:=[zEg1 c],kn:=[4] }) fun Γ=>?_
 exact J.len 1 rfl fun hm=>KU c t ps Γ hm ps.length 0 (by omega) (by omega)
def o8:Ent:=(34,fun
 | [.agg [.pd (.str a),.pd (.lst .str b),.pd (.lst .var c),.pd (.lst .stat d),.pd (.lst .tran e)],.c (.pd (.lst .past ps))],[]=>some (some (Tre d),.x (.c (.pd (.bool (b8 (cj d) none ps)))),[])
 | _,_=>none)
theorem CF:EntOk Tryz.prog o8:=entOk fun vs ck=>by
 unfold o8; dsimp only; split
 · rename_i a b c d e ps; exact entS fun hp=>Ag ⟨a,b,c,d,e⟩ ps hp
 · exact entN
def FV:Cfg:=⟨aX,[oM,o8]⟩
theorem EL:ag Tryz.prog FV.tab:=(ag.cons uW (ag.cons CF ag.nil))
theorem Ay (hz:c.vars.length≤2199023255552∧c.states.length≤2199023255552):ah Tryz.prog 11 [.e .chart c,.l .past ps] [] (.x (.b (bD c==0&&b8 (cj c.states) none ps))) []:=by
 refine dg EL Tryz.func11 (.need (c.vars.length≤2199023255552∧c.states.length≤2199023255552) (.need ((bD c==(0:Int))=true→Tre c.states) (.ret (.p (.bool (bD c==(0:Int)&&b8 (cj c.states) none ps))) []))) fun Γ=>?_
 exact ⟨hz,fun h=>((iX c).1 (eq_of_beq h)).tre,rfl,rfl⟩
def mi:Ent:=(11,fun
 | [.agg [.pd (.str a),.pd (.lst .str b),.pd (.lst .var c),.pd (.lst .stat d),.pd (.lst .tran e)],.c (.pd (.lst .past ps))],[]=>some (some (c.length≤2199023255552∧d.length≤2199023255552),.x (.c (.pd (.bool (bD ⟨a,b,c,d,e⟩==0&&b8 (cj d) none ps)))),[])
 | _,_=>none)
theorem qR:EntOk Tryz.prog mi:=entOk fun vs ck=>by
 unfold mi; dsimp only; split
 · rename_i a b c d e ps; exact entS fun hp=>Ay ⟨a,b,c,d,e⟩ ps hp
 · exact entN
end Go.Proofs.YtgfifkhbfdacjaaGreatDoor
