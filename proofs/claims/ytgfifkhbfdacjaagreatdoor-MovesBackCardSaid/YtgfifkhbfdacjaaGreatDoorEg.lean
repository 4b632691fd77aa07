/- Contracts: slices.Contains on ints; conf: over. Conditions: a valid chart, a legal list. Contracts: moves: one, right, Right. Conditions: sizes. -/
import Derived.Test.YtgfifkhbfdacjaaGreatDoorCe
import Derived.Test.YtgfifkhbfdacjaaGreatDoorEf
import Derived.Test.YtgfifkhbfdacjaaGreatDoorNh
import Derived.Test.YtgfifkhbfdacjaaGreatDoorNv
namespace Go.Proofs.YtgfifkhbfdacjaaGreatDoor
open Go Go.Ev
set_option maxRecDepth 100000
abbrev zNy1:List PI:=[.code [1,0,1,0,0],.inLoop [1,0,1,0,0],.inBlock 0,.code [1,1]]
variable (l:List Int) (s:Int)
theorem Gk (Γ:Ctx) (hl:l.length≤maxLen):∀ (n k:Nat),l.length - k≤n→k≤l.length →
 J Tryz.prog 108 (au Tryz.f108) Γ (Eq2 (.x (.i (aC (fun x:Int=>s==x) (l.drop k) k))) []) zNy1 ({ n:=19,fr:=[(0,.p (.lst .int l)),(1,.i s),(4,.i 0),(7,.i l.length),(8,.i k)],ck:=[] }):=by
 intro n
 induction n with
 | zero=>?_
 | succ n ih=>?_
 all_goals
  intro k hn hk
  refine jg aR Tryz.func108 (.ite (decide ((k:Int)<(l.length:Int))) (.need (inRg k l.length) (.ite (s==ETy.get .int l k) (.ret (.i k) []) (.stop zNy1 { n:=19,fr:=[(0,.p (.lst .int l)),(1,.i s),(4,.i 0),(7,.i l.length),(8,.i (IntKind.wrap .i64 ((k:Int)+1)))],ck:=[] }))) (.ret (.i (-1:Int)) [])) ?_
  refine ⟨fun hlt=>?_,fun hge=>⟨?_,rfl⟩⟩
  · have hk':k<l.length:=by have:=of_decide_eq_true hlt; omega
    rw [bD (t:=.int) hk']
    refine ⟨by omega,?_⟩
    generalize ETy.get .int l k=v
    refine ⟨fun hb=>⟨?_,rfl⟩,fun hb=>?_⟩
    · simp only [aC,hb,cond_true]
    · simp only [aC,hb,cond_false]
      rw [aX (aE hk' hl)]
      first
      | (exfalso; omega)
      | exact ih (k+1) (by omega) (by omega)
  · rw [bO (by have:=of_decide_eq_false hge; omega)]; rfl
theorem Hz:ah Tryz.prog 108 [.l .int l,.i s] [] (.x (.i (aC (fun x:Int=>s==x) l 0))) []:=by
 refine dg aR Tryz.func108 (.stop zNy1 { n:=19,fr:=[(0,.p (.lst .int l)),(1,.i s),(4,.i 0),(7,.i l.length),(8,.i 0)],ck:=[] }) fun Γ=>?_
 exact J.len 0 rfl fun hl=>Gk l s Γ hl l.length 0 (by omega) (by omega)
def AP:Ent:=(108,fun
 | [.c (.pd (.lst .int l)),.c (.pd (.int .i64 s))],[]=>some (none,.x (.c (.pd (.int .i64 (aC (fun x:Int=>s==x) l 0)))),[])
 | _,_=>none)
theorem KW:EntOk Tryz.prog AP:=entOk fun vs ck=>by
 unfold AP; dsimp only; split
 · rename_i l s; exact entS fun hp=>Hz l s
 · exact entN
def Dd:Cfg:=⟨aY,[AP]⟩
theorem Dg:ag Tryz.prog Dd.tab:=(ag.cons KW ag.nil)
theorem Jw:(l.any fun x=>s==x)=inB l s:=by
 unfold inB
 congr 1; funext x
 cases h:x==s
 · simp only [beq_eq_false_iff_ne,ne_eq] at h ⊢; exact fun e=>h e.symm
 · rw [eq_of_beq h]; simp
theorem FR:ah Tryz.prog 48 [.l .int l,.i s] [] (.x (.b (inB l s))) []:=by
 rw [← Jw]
 refine dg Dg Tryz.func48 (.ret (.p (.bool (decide (aC (fun x=>s==x) l (0:Int)≥0)))) []) fun Γ=>⟨?_,rfl⟩
 rw [hP _ _ _ (by omega)]
def r4:Ent:=(48,fun
 | [.c (.pd (.lst .int l)),.c (.pd (.int .i64 s))],[]=>some (none,.x (.c (.pd (.bool (inB l s)))),[])
 | _,_=>none)
theorem sN:EntOk Tryz.prog r4:=entOk fun vs ck=>by
 unfold r4; dsimp only; split
 · rename_i l s; exact entS fun hp=>FR l s
 · exact entN
end Go.Proofs.YtgfifkhbfdacjaaGreatDoor
namespace Go.Proofs.YtgfifkhbfdacjaaGreatDoor
open Go Go.Ev
set_option maxRecDepth 100000
abbrev zEg2:List PI:=[.code [1,1,0,1,0,0],.inLoop [1,1,0,1,0,0],.inBlock 0,.code [1,1,1]]
variable (a:List Int) (c:Chart) (ps:List Past) (vs:List SX) (b:List Int) (ck:List Chunk) (k:Nat)
theorem HU (hab:a.length=b.length) (Γ:Ctx) (hl:a.length≤maxLen):∀ (n k:Nat),a.length - k≤n→k≤a.length →
 J Tryz.prog 144 (au Tryz.f144) Γ (Eq2 (.x (.b (a.drop k==b.drop k))) []) zEg2 ({ n:=26,fr:=[(0,.p (.lst .int a)),(1,.p (.lst .int b)),(4,.p (.bool false)),(12,.i a.length),(13,.i ((k:Int)))],ck:=[],kn:=[4] }):=by
 intro n
 induction n with
 | zero=>?_
 | succ n ih=>?_
 all_goals
  intro k hn hk
  refine jg aR Tryz.func144 (.ite (decide ((k:Int)<(a.length:Int))) (.need (inRg k a.length) (.need (inRg k b.length) (.ite (ETy.get .int a k != ETy.get .int b k) (.ret (.p (.bool false)) []) (.stop zEg2 { n:=26,fr:=[(0,.p (.lst .int a)),(1,.p (.lst .int b)),(4,.p (.bool false)),(12,.i a.length),(13,.i (IntKind.wrap .i64 ((k:Int)+1)))],ck:=[] })))) (.ret (.p (.bool true)) [])) ?_
  refine ⟨fun hlt=>?_,fun hge=>?_⟩
  · have hk':k<a.length:=by have:=of_decide_eq_true hlt; omega
    rw [bD (t:=.int) (l:=a) hk',bD (t:=.int) (l:=b) (by omega)]
    refine ⟨⟨by omega,by omega⟩,⟨by omega,by omega⟩,?_⟩
    generalize ETy.get .int a k=v
    generalize ETy.get .int b k=u
    refine ⟨fun hb=>⟨?_,rfl⟩,fun hb=>?_⟩
    · have hb':(v==u)=false:=nt hb
      rw [eM,hb',a6]
    · have hb':(v==u)=true:=nf hb
      rw [eM,hb',aS,aX (aE hk' hl)]
      first
      | (exfalso; omega)
      | exact J.kn [4] (ih (k+1) (by omega) (by omega))
  · rw [bO (l:=a) (by have:=of_decide_eq_false hge; omega),bO (l:=b) (by have:=of_decide_eq_false hge; omega)]; exact ⟨rfl,rfl⟩
theorem Hu:ah Tryz.prog 144 [.l .int a,.l .int b] [] (.x (.b (a==b))) []:=by
 refine dg aR Tryz.func144 (.ite ((a.length:Int) != (b.length:Int)) (.ret (.p (.bool false)) []) (.stop zEg2 { n:=26,fr:=[(0,.p (.lst .int a)),(1,.p (.lst .int b)),(4,.p (.bool false)),(12,.i a.length),(13,.i 0)],ck:=[],kn:=[4] })) fun Γ=>?_
 refine ⟨fun h=>?_,fun h=>?_⟩
 · have hne:a.length≠b.length:=by
    have:(a.length:Int)≠b.length:=by simpa using h
    omega
   rw [show (a==b)=false from by rw [beq_eq_false_iff_ne]; exact fun e=>hne (by rw [e])]; exact ⟨rfl,rfl⟩
 · have hab:a.length=b.length:=by
    have:(a.length:Int)=b.length:=by simpa using h
    omega
   exact J.len 0 rfl fun hl=>HU a b hab Γ hl a.length 0 (by omega) (by omega)
def AA:Ent:=(144,fun
 | [.c (.pd (.lst .int a)),.c (.pd (.lst .int b))],[]=>some (none,.x (.c (.pd (.bool (a==b)))),[])
 | _,_=>none)
theorem JV:EntOk Tryz.prog AA:=entOk fun vs ck=>by
 unfold AA; dsimp only; split
 · rename_i a b; exact entS fun hp=>Hu a b
 · exact entN
/-! ### guards that fail -/
def Bi:Ent:=(1000001004,fun _ _=>none)
def uB:Ent:=(1000001015,fun _ _=>none)
theorem y8 (p:Option Prop) (ret:SV) (ck':List Chunk) (h:Bi.2 vs ck=some (p,ret,ck')) (_:Holds p):ah Tryz.prog Bi.1 vs ck ret ck':=by cases h
theorem wj (p:Option Prop) (ret:SV) (ck':List Chunk) (h:uB.2 vs ck=some (p,ret,ck')) (_:Holds p):ah Tryz.prog uB.1 vs ck ret ck':=by cases h
def AT:Ent:=(102,fun
 | [.c (.pd (.lst .stat l)),.c (.pd (.int .i64 i))],[]=>some (some (False),.x (.c (.pd (.v (.slice none 0 0)))),[])
 | _,_=>none)
theorem Km:EntOk Tryz.prog AT:=entOk fun vs ck=>by
 unfold AT; dsimp only; split
 · rename_i l i; exact entS fun hp=>hp.elim
 · exact entN
def AD:Ent:=(48,fun
 | [.c (.pd (.v (.slice none 0 0))),.c (.pd (.int .i64 s))],[]=>some (some (False),.x (.c (.pd (.bool false))),[])
 | _,_=>none)
theorem JE:EntOk Tryz.prog AD:=entOk fun vs ck=>by
 unfold AD; dsimp only; split
 · rename_i s; exact entS fun hp=>hp.elim
 · exact entN
def Ba:Ent:=(41,fun
 | [.agg [.pd (.str a),.pd (.lst .str b),.pd (.lst .var c),.pd (.lst .stat d),.pd (.lst .tran e)],.c (.pd (.int .i64 k)),.c (.pd (.lst .int ts))],[]=>some (some (False),.x (.c (.pd (.v (.slice none 0 0)))),[])
 | _,_=>none)
theorem Ji:EntOk Tryz.prog Ba:=entOk fun vs ck=>by
 unfold Ba; dsimp only; split
 · rename_i a b c d e k ts; exact entS fun hp=>hp.elim
 · exact entN
def AV:Ent:=(145,fun
 | [.agg [.pd (.str a),.pd (.lst .str b),.pd (.lst .var c),.pd (.lst .stat d),.pd (.lst .tran e)],.c (.pd (.v (.slice none 0 0)))],[]=>some (some (False),.x (.c (.pd (.v (.slice none 0 0)))),[])
 | _,_=>none)
theorem Kw:EntOk Tryz.prog AV:=entOk fun vs ck=>by
 unfold AV; dsimp only; split
 · rename_i a b c d e; exact entS fun hp=>hp.elim
 · exact entN
def B7:Ent:=(144,fun
 | [.c (.pd (.v (.slice none 0 0))),.c (.pd (.lst .int b))],[]=>some (some (False),.x (.c (.pd (.bool false))),[])
 | _,_=>none)
theorem Ku:EntOk Tryz.prog B7:=entOk fun vs ck=>by
 unfold B7; dsimp only; split
 · rename_i b; exact entS fun hp=>hp.elim
 · exact entN
def DS:Cfg:=⟨aY,[iU,je]⟩
theorem Fk:ag Tryz.prog DS.tab:=(ag.cons iy (ag.cons ka ag.nil))
def Fs:Cfg:=⟨[],[nQ,nT,Bi,uB,iU,AT,AD]⟩
theorem EJ:ag Tryz.prog Fs.tab:=(ag.cons ky (ag.cons ku (ag.cons y8 (ag.cons wj (ag.cons iy (ag.cons Km (ag.cons JE ag.nil)))))))
def CP:Cfg:=⟨aY,[nQ,nT,uB,iU,jD,r4]⟩
theorem D7:ag Tryz.prog CP.tab:=(ag.cons ky (ag.cons ku (ag.cons wj (ag.cons iy (ag.cons jR (ag.cons sN ag.nil))))))
def Ex:Cfg:=⟨aY,[nQ,nT,iU,jD,r4]⟩
theorem Ew:ag Tryz.prog Ex.tab:=(ag.cons ky (ag.cons ku (ag.cons iy (ag.cons jR (ag.cons sN ag.nil)))))
def C2:Cfg:=⟨[],[nQ,nT,Bi,Ba,AV,B7]⟩
theorem El:ag Tryz.prog C2.tab:=(ag.cons ky (ag.cons ku (ag.cons y8 (ag.cons Ji (ag.cons Kw (ag.cons Ku ag.nil))))))
def Ed:Cfg:=⟨aY,[nQ,nT,rG,mA,AA]⟩
theorem CW:ag Tryz.prog Ed.tab:=(ag.cons ky (ag.cons ku (ag.cons xI (ag.cons xO (ag.cons JV ag.nil)))))
theorem lM {A:Prop} (h:(!true)=true):A:=absurd h (by decide)
abbrev zEg1 (a:Chart):Chunk:=.cells [.pd (.str a.name),.pd (.lst .str a.events),.pd (.lst .var a.vars),.pd (.lst .stat a.states),.pd (.lst .tran a.trans)] 27
theorem EI (p:Past) (t:Tre c.states):ah Tryz.prog 96 [.e .chart c,.e .past p] [] (.x (.b (cw c.states p))) []:=by
 have hfew:=t.shp.few
 have hl:c.states.length≤maxLen:=by unfold maxLen; omega
 have hst:(decide (p.state<0)||decide (p.state≥(c.states.length:Int)))=false→0≤p.state∧p.state<(c.states.length:Int):=fun h=>by
  rw [ay] at h
  have:=of_decide_eq_false h.1
  have:=of_decide_eq_false h.2
  omega
 have eN:((p.set.length:Int)==1)=(p.set.length==1):=by
  rw [bp,beq_iff_eq,beq_iff_eq]; omega
 have eG:decide ((p.set.length:Int)>0)=decide (0<p.set.length):=by
  rw [bp,decide_eq_true_eq,decide_eq_true_eq]; omega
 refine dg Fk Tryz.func96 (let x1:ST:={ n:=85,fr:=[(2,.x (.c (.loc 0 0))),(3,.x (.c (.loc 1 0))),(4,.p (.bool false)),(5,.i (ba c.states (Past.state p)))],ck:=[zEg1 c,.cells [.i (Past.state p),.pd (.lst .int (Past.set p))] 40],kn:=[4] }; let x2:=(c.states.length:Int); let x3:=(ETy.get .stat c.states ((Past.state p).toNat)); .need ((decide (Past.state p<(0:Int))||decide (Past.state p≥x2))=false→(0:Int)≤Past.state p∧Past.state p<x2) (.ite (decide (Past.state p<(0:Int))||decide (Past.state p≥x2) || !aO (Stat.kind x3)) (.ret (.p (.bool false)) []) (.need (c.states.length≤maxLen) (.need ((0:Int)≤Past.state p∧Past.state p<x2) (.ite (Stat.kind x3==(5:Int)) (.stop [.code [1,1,1,0,1,0,0],.code [1,1,1,0,1,0,1],.code [1,1,1,1]] x1) (.stop [.code [1,1,1,1,0],.code [1,1,1,1,1]] x1)))))) fun Γ=>?_
 conv=>zeta
 unfold cw
 refine ⟨hst,fun hb=>?_,fun hb=>?_⟩
 · have hb':(decide (p.state<0)||decide (p.state≥(c.states.length:Int)) || !aO (ETy.get .stat c.states p.state.toNat).kind)=true:=hb
   rw [if_pos hb']; exact ⟨rfl,rfl⟩
 · have hb':(decide (p.state<0)||decide (p.state≥(c.states.length:Int)) || !aO (ETy.get .stat c.states p.state.toNat).kind)=false:=hb
   have hb2:=hb'
   rw [ay] at hb2
   have hin:=hst hb2.1
   have hi:p.state.toNat<c.states.length:=by omega
   have hp:aO (knd c.states p.state.toNat)=true:=by simpa using hb2.2
   obtain ⟨u,hu,hui,hul,hk2⟩:=kv t hi hp
   have hpar:ba c.states p.state=(u:Int):=by
    obtain ⟨q,hq⟩:=aD hin.1
    rw [hq,fY t.right (by omega),dK t.shp (by omega)]
    rw [hq,ai] at hu; exact hu
   rw [if_neg (by rw [hb']; decide),hu,ai]
   refine ⟨hl,hin,fun h5=>?_,fun h5=>?_⟩
   · have h5':((ETy.get .stat c.states p.state.toNat).kind==5)=true:=h5
     rw [if_pos h5']
     cases h1:(p.set.length==1)
     · refine jg EJ Tryz.func96 (let x1:=(((4,45,true,du true (!true) none).2).2); let x2:=(↑((Past.set p).length):Int); let x3:=(((15,56,true,du true (!true) none).2).2); .need ((x2==1) = !true) (.need (x1.2→False) (.need (x1.2→(0:Int)≤0∧(0:Int)<x2) (.need (x1.2→False) (.need ((!true&&false) = !true) (.need (x3.2→(0:Int)≤0∧(0:Int)<x2) (.need (x3.2→(0:Int)≤ETy.get .int (Past.set p) 0∧ETy.get .int (Past.set p) 0<(c.states.length:Int)) (.ret (.p (.bool false)) [])))))))) ?_
       conv=>zeta
       exact ⟨eN.trans h1,fun h=>lM h,fun h=>lM h,fun h=>lM h,rfl,fun h=>lM h,fun h=>lM h,rfl,rfl⟩
     · have hlen:0<p.set.length:=by have:=eq_of_beq h1; omega
       cases h2:inB (bb c.states u) (ETy.get .int p.set 0)
       · refine jg D7 Tryz.func96 (let x1:=(↑((Past.set p).length):Int); let x2:=(((15,56,true,du true (!true) none).2).2); let x3:=(ba c.states (Past.state p)); .need ((x1==1)=true) (.need (bR c.states x3=true) (.need ((0:Int)≤0∧(0:Int)<x1) (.need ((true&&inB (bb c.states (x3.toNat)) (ETy.get .int (Past.set p) 0)) = !true) (.need (x2.2→(0:Int)≤0∧(0:Int)<x1) (.need (x2.2→(0:Int)≤ETy.get .int (Past.set p) 0∧ETy.get .int (Past.set p) 0<(c.states.length:Int)) (.ret (.p (.bool false)) []))))))) ?_
         conv=>zeta
         exact ⟨eN.trans h1,by rw [hpar,fh t.right hul],⟨by omega,by omega⟩,by rw [hpar,ai,h2]; rfl,fun h=>lM h,fun h=>lM h,rfl,rfl⟩
       · have hk:=(dW t.shp hul _).1 ((cO _ _).1 h2)
         obtain ⟨m,hm1,hm2,_⟩:=hk
         have hx:(0:Int)≤ETy.get .int p.set 0∧(ETy.get .int p.set 0:Int)<(c.states.length:Int):=by rw [hm1]; exact ⟨Int.natCast_nonneg m,Int.ofNat_lt.2 hm2⟩
         refine jg Ew Tryz.func96 (.need (((↑((Past.set p).length):Int)==1)=true) (.need (bR c.states (ba c.states (Past.state p))=true) (.need ((0:Int)≤0∧(0:Int)<(↑((Past.set p).length):Int)) (.need ((true&&inB (bb c.states ((ba c.states (Past.state p)).toNat)) (ETy.get .int (Past.set p) 0))=true) (.need ((0:Int)≤0∧(0:Int)<(↑((Past.set p).length):Int)) (.need ((0:Int)≤ETy.get .int (Past.set p) 0∧ETy.get .int (Past.set p) 0<(c.states.length:Int)) (.ret (.p (.bool (true && !aO (Stat.kind (ETy.get .stat c.states ((ETy.get .int (Past.set p) 0).toNat)))))) []))))))) ?_
         exact ⟨eN.trans h1,by rw [hpar,fh t.right hul],⟨by omega,by omega⟩,by rw [hpar,ai,h2]; rfl,⟨by omega,by omega⟩,hx,rfl,rfl⟩
   · have h5':((ETy.get .stat c.states p.state.toNat).kind==5)=false:=h5
     rw [if_neg (by rw [h5']; decide)]
     cases h1:decide (0<p.set.length)
     · refine jg El Tryz.func96 (let x1:=((((4,73,true,du true (!true) none).2).2).2→False); .need (decide ((↑((Past.set p).length):Int)>0) = !true) (.need x1 (.need x1 (.need x1 (.ret (.p (.bool false)) []))))) ?_
       conv=>zeta
       exact ⟨eG.trans h1,fun h=>lM h,fun h=>lM h,fun h=>lM h,rfl,rfl⟩
     · have hd:=rN t (iz t p.set) (c.states.length+1) u hul
       have he:=c7 c.states hul
       have hdl:=Aa t p.set hul
       have hdd:∀ y∈dnM c.states p.set u,(0:Int)≤y∧y<(c.states.length:Int):=fun y hy=>by have:=hd.2 y hy; omega
       refine jg CW Tryz.func96 (.need (decide ((↑((Past.set p).length):Int)>0)=true) (.need (Tre c.states∧(0:Int)≤ba c.states (Past.state p)∧ba c.states (Past.state p)<(c.states.length:Int)) (.need ((dnM c.states (Past.set p) ((ba c.states (Past.state p)).toNat)).length≤1000∧∀ (y:ETy.den .int),y∈dnM c.states (Past.set p) ((ba c.states (Past.state p)).toNat)→(0:ETy.den .int)≤y∧y<(c.states.length:Int)) (.ret (.p (.bool (true&&dc c.states (dnM c.states (Past.set p) ((ba c.states (Past.state p)).toNat))==Past.set p))) [])))) ?_
       rw [hpar,ai]
       exact ⟨eG.trans h1,⟨t,by omega,by omega⟩,⟨by omega,hdd⟩,rfl,rfl⟩
def vm:Ent:=(96,fun
 | [.agg [.pd (.str a),.pd (.lst .str b),.pd (.lst .var c),.pd (.lst .stat d),.pd (.lst .tran e)],.agg [.pd (.int .i64 s),.pd (.lst .int l)]],[]=>some (some (Tre d),.x (.c (.pd (.bool (cw d ⟨s,l⟩)))),[])
 | _,_=>none)
theorem FG:EntOk Tryz.prog vm:=entOk fun vs ck=>by
 unfold vm; dsimp only; split
 · rename_i a b c d e s l; exact entS fun hp=>EI ⟨a,b,c,d,e⟩ ⟨s,l⟩ hp
 · exact entN
def wU:Cfg:=⟨aY,[vm]⟩
theorem tn:ag Tryz.prog wU.tab:=(ag.cons FG ag.nil)
def mW:Option Int:=match k with
 | 0=>none
 | k+1=>some (ETy.get .past ps k).state
theorem Mj (hk:k<ps.length) (hm:ps.length≤maxLen):(decide ((k:Int)>0)&&decide ((ETy.get .past ps k).state≤(ETy.get .past ps (IntKind.wrap .i64 ((k:Int) - 1)).toNat).state)) = !pR (mW ps k) (ETy.get .past ps k).state:=by
 cases k with
 | zero=>rfl
 | succ k =>
   have e:IntKind.wrap .i64 (((k+1:Nat):Int) - 1)=(k:Int):=by
    have h2:=aE hk hm
    rw [show (((k+1:Nat):Int) - 1)=(k:Int) by omega,cg (n:=(k:Int)) (by omega) (by omega)]
   rw [e,ai,decide_eq_true (show ((k+1:Nat):Int)>0 by omega),aS]
   show decide (_≤_) = !decide (_<_)
   rw [bp,decide_eq_true_eq,aH,decide_eq_false_iff_not]
   omega
abbrev zEg3:List PI:=[.code [1,0,1,0,0],.inLoop [1,0,1,0,0],.inBlock 0,.code [1,1]]
theorem Jk (t:Tre c.states) (ps:List Past) (Γ:Ctx) (hm:ps.length≤maxLen):∀ (n k:Nat),ps.length - k≤n→k≤ps.length →
 J Tryz.prog 34 (au Tryz.f34) Γ (Eq2 (.x (.b (cb (cw c.states) (mW ps k) (ps.drop k)))) []) zEg3 ({ n:=34,fr:=[(1,.p (.lst .past ps)),(2,.x (.c (.loc 0 0))),(4,.p (.bool false)),(7,.p (.lst .past ps)),(8,.i ps.length),(9,.i ((k:Int)))],ck:=[zEg1 c],kn:=[4] }):=by
 intro n
 induction n with
 | zero=>?_
 | succ n ih=>?_
 all_goals
  intro k hn hk
  refine jg tn Tryz.func34 (let x1:=(Past.state (ETy.get .past ps k)≤Past.state (ETy.get .past ps ((IntKind.wrap .i64 ((k:Int) - 1)).toNat))); .ite (decide ((k:Int)<(ps.length:Int))) (.need (inRg k ps.length) (.need ((((2,16,true,du true (decide ((k:Int)>0)) none).2).2).2→(0:Int)≤IntKind.wrap .i64 ((k:Int) - 1)∧IntKind.wrap .i64 ((k:Int) - 1)<(ps.length:Int)) (.need ((((13,27,false,du false (decide ((k:Int)>0)&&decide x1) none).2).2).2→Tre c.states) (.ite (decide ((k:Int)>0)&&decide x1 || !cw c.states (ETy.get .past ps k)) (.ret (.p (.bool false)) []) (.stop zEg3 { n:=34,fr:=[(1,.p (.lst .past ps)),(2,.x (.c (.loc 0 0))),(4,.p (.bool false)),(7,.p (.lst .past ps)),(8,.i ps.length),(9,.i (IntKind.wrap .i64 ((k:Int)+1)))],ck:=[zEg1 c] }))))) (.ret (.p (.bool true)) [])) ?_
  conv=>zeta
  refine ⟨fun hlt=>?_,fun hge=>?_⟩
  · have hk':k<ps.length:=by have:=of_decide_eq_true hlt; omega
    have ed:ps.drop k=ETy.get .past ps k::ps.drop (k+1):=bD (t:=.past) (l:=ps) hk'
    have hbe:=Mj ps k hk' hm
    have e1:mW ps (k+1)=some (ETy.get .past ps k).state:=rfl
    have h2:=aE hk' hm
    rw [ed,lR,← e1]
    refine ⟨⟨by omega,by omega⟩,fun h=>?_,fun _=>t,fun hb=>?_,fun hb=>?_⟩
    · have h':decide ((k:Int)>0)=true:=h
      have:=of_decide_eq_true h'
      rw [cg (n:=(k:Int) - 1) (by omega) (by omega)]
      omega
    · have hb':(decide ((k:Int)>0)&&decide ((ETy.get .past ps k).state≤(ETy.get .past ps (IntKind.wrap .i64 ((k:Int) - 1)).toNat).state) || !cw c.states (ETy.get .past ps k))=true:=hb
      rw [hbe] at hb'
      have:(pR (mW ps k) (ETy.get .past ps k).state&&cw c.states (ETy.get .past ps k))=false:=by
       cases h1:pR (mW ps k) (ETy.get .past ps k).state <;> cases h2:cw c.states (ETy.get .past ps k) <;> simp [h1,h2] at hb' ⊢
      rw [this]; exact ⟨rfl,rfl⟩
    · have hb':(decide ((k:Int)>0)&&decide ((ETy.get .past ps k).state≤(ETy.get .past ps (IntKind.wrap .i64 ((k:Int) - 1)).toNat).state) || !cw c.states (ETy.get .past ps k))=false:=hb
      rw [hbe] at hb'
      have:(pR (mW ps k) (ETy.get .past ps k).state&&cw c.states (ETy.get .past ps k))=true:=by
       cases h1:pR (mW ps k) (ETy.get .past ps k).state <;> cases h2:cw c.states (ETy.get .past ps k) <;> simp [h1,h2] at hb' ⊢
      rw [this,aS,aX h2]
      first
      | (exfalso; omega)
      | exact J.kn [4] (ih (k+1) (by omega) (by omega))
  · rw [bO (l:=ps) (by have:=of_decide_eq_false hge; omega)]; exact ⟨rfl,rfl⟩
theorem yF (t:Tre c.states):ah Tryz.prog 34 [.e .chart c,.l .past ps] [] (.x (.b (cb (cw c.states) none ps))) []:=by
 refine dg tn Tryz.func34 (.stop zEg3 { n:=34,fr:=[(1,.p (.lst .past ps)),(2,.x (.c (.loc 0 0))),(4,.p (.bool false)),(7,.p (.lst .past ps)),(8,.i ps.length),(9,.i 0)],ck:=[zEg1 c],kn:=[4] }) fun Γ=>?_
 exact J.len 1 rfl fun hm=>Jk c t ps Γ hm ps.length 0 (by omega) (by omega)
def oK:Ent:=(34,fun
 | [.agg [.pd (.str a),.pd (.lst .str b),.pd (.lst .var c),.pd (.lst .stat d),.pd (.lst .tran e)],.c (.pd (.lst .past ps))],[]=>some (some (Tre d),.x (.c (.pd (.bool (cb (cw d) none ps)))),[])
 | _,_=>none)
theorem BS:EntOk Tryz.prog oK:=entOk fun vs ck=>by
 unfold oK; dsimp only; split
 · rename_i a b c d e ps; exact entS fun hp=>yF ⟨a,b,c,d,e⟩ ps hp
 · exact entN
def Fa:Cfg:=⟨aY,[n7,oK]⟩
theorem DI:ag Tryz.prog Fa.tab:=(ag.cons tA (ag.cons BS ag.nil))
theorem xY (hz:c.vars.length≤2199023255552∧c.states.length≤2199023255552):ah Tryz.prog 11 [.e .chart c,.l .past ps] [] (.x (.b (bC c==0&&cb (cw c.states) none ps))) []:=by
 refine dg DI Tryz.func11 (.need (c.vars.length≤2199023255552∧c.states.length≤2199023255552) (.need ((bC c==(0:Int))=true→Tre c.states) (.ret (.p (.bool (bC c==(0:Int)&&cb (cw c.states) none ps))) []))) fun Γ=>?_
 exact ⟨hz,fun h=>((iB c).1 (eq_of_beq h)).tre,rfl,rfl⟩
def mu:Ent:=(11,fun
 | [.agg [.pd (.str a),.pd (.lst .str b),.pd (.lst .var c),.pd (.lst .stat d),.pd (.lst .tran e)],.c (.pd (.lst .past ps))],[]=>some (some (c.length≤2199023255552∧d.length≤2199023255552),.x (.c (.pd (.bool (bC ⟨a,b,c,d,e⟩==0&&cb (cw d) none ps)))),[])
 | _,_=>none)
theorem qS:EntOk Tryz.prog mu:=entOk fun vs ck=>by
 unfold mu; dsimp only; split
 · rename_i a b c d e ps; exact entS fun hp=>xY ⟨a,b,c,d,e⟩ ps hp
 · exact entN
end Go.Proofs.YtgfifkhbfdacjaaGreatDoor
