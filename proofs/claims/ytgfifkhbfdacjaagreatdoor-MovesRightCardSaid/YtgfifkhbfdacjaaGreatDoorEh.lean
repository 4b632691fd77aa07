/- Contracts: slices.Contains on ints; conf: over. Conditions: a valid chart, a legal list. Contracts: moves: one, right, Right. Conditions: sizes. Contracts: the document's one, Right (of what histories remember). Conditions: sizes. -/
import Derived.Test.YtgfifkhbfdacjaaGreatDoorCe
import Derived.Test.YtgfifkhbfdacjaaGreatDoorEf
import Derived.Test.YtgfifkhbfdacjaaGreatDoorNh
import Derived.Test.YtgfifkhbfdacjaaGreatDoorVl
import Derived.Test.YtgfifkhbfdacjaaGreatDoorEe
namespace Go.Proofs.YtgfifkhbfdacjaaGreatDoor
open Go Go.Ev
set_option maxRecDepth 100000
abbrev zNy1:List PI:=[.code [1,0,1,0,0],.inLoop [1,0,1,0,0],.inBlock 0,.code [1,1]]
variable (l:List Int) (s:Int)
theorem Ig (Γ:Ctx) (hl:l.length≤maxLen):∀ (n k:Nat),l.length - k≤n→k≤l.length →
 J Tryz.prog 108 (au Tryz.f108) Γ (Eq2 (.x (.i (aE (fun x:Int=>s==x) (l.drop k) k))) []) zNy1 ({ n:=19,fr:=[(0,.p (.lst .int l)),(1,.i s),(4,.i 0),(7,.i l.length),(8,.i k)],ck:=[] }):=by
 intro n
 induction n with
 | zero=>?_
 | succ n ih=>?_
 all_goals
  intro k hn hk
  refine jg aY Tryz.func108 (.ite (decide ((k:Int)<(l.length:Int))) (.need (inRg k l.length) (.ite (s==ETy.get .int l k) (.ret (.i k) []) (.stop zNy1 { n:=19,fr:=[(0,.p (.lst .int l)),(1,.i s),(4,.i 0),(7,.i l.length),(8,.i (IntKind.wrap .i64 ((k:Int)+1)))],ck:=[] }))) (.ret (.i (-1:Int)) [])) ?_
  refine ⟨fun hlt=>?_,fun hge=>⟨?_,rfl⟩⟩
  · have hk':k<l.length:=by have:=of_decide_eq_true hlt; omega
    rw [bt (t:=.int) hk']
    refine ⟨by omega,?_⟩
    generalize ETy.get .int l k=v
    refine ⟨fun hb=>⟨?_,rfl⟩,fun hb=>?_⟩
    · simp only [aE,hb,cond_true]
    · simp only [aE,hb,cond_false]
      rw [aU (aB hk' hl)]
      first
      | (exfalso; omega)
      | exact ih (k+1) (by omega) (by omega)
  · rw [bH (by have:=of_decide_eq_false hge; omega)]; rfl
theorem Jy:ah Tryz.prog 108 [.l .int l,.i s] [] (.x (.i (aE (fun x:Int=>s==x) l 0))) []:=by
 refine dg aY Tryz.func108 (.stop zNy1 { n:=19,fr:=[(0,.p (.lst .int l)),(1,.i s),(4,.i 0),(7,.i l.length),(8,.i 0)],ck:=[] }) fun Γ=>?_
 exact J.len 0 rfl fun hl=>Ig l s Γ hl l.length 0 (by omega) (by omega)
def DN:Ent:=(108,fun
 | [.c (.pd (.lst .int l)),.c (.pd (.int .i64 s))],[]=>some (none,.x (.c (.pd (.int .i64 (aE (fun x:Int=>s==x) l 0)))),[])
 | _,_=>none)
theorem ML:EntOk Tryz.prog DN:=entOk fun vs ck=>by
 unfold DN; dsimp only; split
 · rename_i l s; exact entS fun hp=>Jy l s
 · exact entN
def Ff:Cfg:=⟨aX,[DN]⟩
theorem Eo:ag Tryz.prog Ff.tab:=(ag.cons ML ag.nil)
theorem Mq:(l.any fun x=>s==x)=inB l s:=by
 unfold inB
 congr 1; funext x
 cases h:x==s
 · simp only [beq_eq_false_iff_ne,ne_eq] at h ⊢; exact fun e=>h e.symm
 · rw [eq_of_beq h]; simp
theorem Hz:ah Tryz.prog 48 [.l .int l,.i s] [] (.x (.b (inB l s))) []:=by
 rw [← Mq]
 refine dg Eo Tryz.func48 (.ret (.p (.bool (decide (aE (fun x=>s==x) l (0:Int)≥0)))) []) fun Γ=>⟨?_,rfl⟩
 rw [iz _ _ _ (by omega)]
def tw:Ent:=(48,fun
 | [.c (.pd (.lst .int l)),.c (.pd (.int .i64 s))],[]=>some (none,.x (.c (.pd (.bool (inB l s)))),[])
 | _,_=>none)
theorem tv:EntOk Tryz.prog tw:=entOk fun vs ck=>by
 unfold tw; dsimp only; split
 · rename_i l s; exact entS fun hp=>Hz l s
 · exact entN
end Go.Proofs.YtgfifkhbfdacjaaGreatDoor
namespace Go.Proofs.YtgfifkhbfdacjaaGreatDoor
open Go Go.Ev
set_option maxRecDepth 100000
abbrev zEg2:List PI:=[.code [1,1,0,1,0,0],.inLoop [1,1,0,1,0,0],.inBlock 0,.code [1,1,1]]
variable (a:List Int) (c:Chart) (ps:List Past) (vs:List SX) (b:List Int) (ck:List Chunk) (k:Nat)
theorem HL (hab:a.length=b.length) (Γ:Ctx) (hl:a.length≤maxLen):∀ (n k:Nat),a.length - k≤n→k≤a.length →
 J Tryz.prog 144 (au Tryz.f144) Γ (Eq2 (.x (.b (a.drop k==b.drop k))) []) zEg2 ({ n:=26,fr:=[(0,.p (.lst .int a)),(1,.p (.lst .int b)),(4,.p (.bool false)),(12,.i a.length),(13,.i ((k:Int)))],ck:=[],kn:=[4] }):=by
 intro n
 induction n with
 | zero=>?_
 | succ n ih=>?_
 all_goals
  intro k hn hk
  refine jg aY Tryz.func144 (.ite (decide ((k:Int)<(a.length:Int))) (.need (inRg k a.length) (.need (inRg k b.length) (.ite (ETy.get .int a k != ETy.get .int b k) (.ret (.p (.bool false)) []) (.stop zEg2 { n:=26,fr:=[(0,.p (.lst .int a)),(1,.p (.lst .int b)),(4,.p (.bool false)),(12,.i a.length),(13,.i (IntKind.wrap .i64 ((k:Int)+1)))],ck:=[] })))) (.ret (.p (.bool true)) [])) ?_
  refine ⟨fun hlt=>?_,fun hge=>?_⟩
  · have hk':k<a.length:=by have:=of_decide_eq_true hlt; omega
    rw [bt (t:=.int) (l:=a) hk',bt (t:=.int) (l:=b) (by omega)]
    refine ⟨⟨by omega,by omega⟩,⟨by omega,by omega⟩,?_⟩
    generalize ETy.get .int a k=v
    generalize ETy.get .int b k=u
    refine ⟨fun hb=>⟨?_,rfl⟩,fun hb=>?_⟩
    · have hb':(v==u)=false:=nt hb
      rw [eP,hb',bb]
    · have hb':(v==u)=true:=nf hb
      rw [eP,hb',aS,aU (aB hk' hl)]
      first
      | (exfalso; omega)
      | exact J.kn [4] (ih (k+1) (by omega) (by omega))
  · rw [bH (l:=a) (by have:=of_decide_eq_false hge; omega),bH (l:=b) (by have:=of_decide_eq_false hge; omega)]; exact ⟨rfl,rfl⟩
theorem JO:ah Tryz.prog 144 [.l .int a,.l .int b] [] (.x (.b (a==b))) []:=by
 refine dg aY Tryz.func144 (.ite ((a.length:Int) != (b.length:Int)) (.ret (.p (.bool false)) []) (.stop zEg2 { n:=26,fr:=[(0,.p (.lst .int a)),(1,.p (.lst .int b)),(4,.p (.bool false)),(12,.i a.length),(13,.i 0)],ck:=[],kn:=[4] })) fun Γ=>?_
 refine ⟨fun h=>?_,fun h=>?_⟩
 · have hne:a.length≠b.length:=by
    have:(a.length:Int)≠b.length:=by simpa using h
    omega
   rw [show (a==b)=false from by rw [beq_eq_false_iff_ne]; exact fun e=>hne (by rw [e])]; exact ⟨rfl,rfl⟩
 · have hab:a.length=b.length:=by
    have:(a.length:Int)=b.length:=by simpa using h
    omega
   exact J.len 0 rfl fun hl=>HL a b hab Γ hl a.length 0 (by omega) (by omega)
def DB:Ent:=(144,fun
 | [.c (.pd (.lst .int a)),.c (.pd (.lst .int b))],[]=>some (none,.x (.c (.pd (.bool (a==b)))),[])
 | _,_=>none)
theorem Mr:EntOk Tryz.prog DB:=entOk fun vs ck=>by
 unfold DB; dsimp only; split
 · rename_i a b; exact entS fun hp=>JO a b
 · exact entN
/-! ### guards that fail -/
def yP:Ent:=(1000001004,fun _ _=>none)
def wt:Ent:=(1000001015,fun _ _=>none)
theorem ti (p:Option Prop) (ret:SV) (ck':List Chunk) (h:yP.2 vs ck=some (p,ret,ck')) (_:Holds p):ah Tryz.prog yP.1 vs ck ret ck':=by cases h
theorem yJ (p:Option Prop) (ret:SV) (ck':List Chunk) (h:wt.2 vs ck=some (p,ret,ck')) (_:Holds p):ah Tryz.prog wt.1 vs ck ret ck':=by cases h
def B2:Ent:=(102,fun
 | [.c (.pd (.lst .stat l)),.c (.pd (.int .i64 i))],[]=>some (some (False),.x (.c (.pd (.v (.slice none 0 0)))),[])
 | _,_=>none)
theorem Nw:EntOk Tryz.prog B2:=entOk fun vs ck=>by
 unfold B2; dsimp only; split
 · rename_i l i; exact entS fun hp=>hp.elim
 · exact entN
def BO:Ent:=(48,fun
 | [.c (.pd (.v (.slice none 0 0))),.c (.pd (.int .i64 s))],[]=>some (some (False),.x (.c (.pd (.bool false))),[])
 | _,_=>none)
theorem Lr:EntOk Tryz.prog BO:=entOk fun vs ck=>by
 unfold BO; dsimp only; split
 · rename_i s; exact entS fun hp=>hp.elim
 · exact entN
def CC:Ent:=(41,fun
 | [.agg [.pd (.str a),.pd (.lst .str b),.pd (.lst .var c),.pd (.lst .stat d),.pd (.lst .tran e)],.c (.pd (.int .i64 k)),.c (.pd (.lst .int ts))],[]=>some (some (False),.x (.c (.pd (.v (.slice none 0 0)))),[])
 | _,_=>none)
theorem Mb:EntOk Tryz.prog CC:=entOk fun vs ck=>by
 unfold CC; dsimp only; split
 · rename_i a b c d e k ts; exact entS fun hp=>hp.elim
 · exact entN
def CE:Ent:=(145,fun
 | [.agg [.pd (.str a),.pd (.lst .str b),.pd (.lst .var c),.pd (.lst .stat d),.pd (.lst .tran e)],.c (.pd (.v (.slice none 0 0)))],[]=>some (some (False),.x (.c (.pd (.v (.slice none 0 0)))),[])
 | _,_=>none)
theorem L0:EntOk Tryz.prog CE:=entOk fun vs ck=>by
 unfold CE; dsimp only; split
 · rename_i a b c d e; exact entS fun hp=>hp.elim
 · exact entN
def BV:Ent:=(144,fun
 | [.c (.pd (.v (.slice none 0 0))),.c (.pd (.lst .int b))],[]=>some (some (False),.x (.c (.pd (.bool false))),[])
 | _,_=>none)
theorem ME:EntOk Tryz.prog BV:=entOk fun vs ck=>by
 unfold BV; dsimp only; split
 · rename_i b; exact entS fun hp=>hp.elim
 · exact entN
def D9:Cfg:=⟨aX,[jb,jH]⟩
theorem ES:ag Tryz.prog D9.tab:=(ag.cons iV (ag.cons kG ag.nil))
def Eh:Cfg:=⟨[],[l9,l1,yP,wt,jb,B2,BO]⟩
theorem EK:ag Tryz.prog Eh.tab:=(ag.cons iW (ag.cons iP (ag.cons ti (ag.cons yJ (ag.cons iV (ag.cons Nw (ag.cons Lr ag.nil)))))))
def Ep:Cfg:=⟨aX,[l9,l1,wt,jb,kj,tw]⟩
theorem Fv:ag Tryz.prog Ep.tab:=(ag.cons iW (ag.cons iP (ag.cons yJ (ag.cons iV (ag.cons j8 (ag.cons tv ag.nil))))))
def FN:Cfg:=⟨aX,[l9,l1,jb,kj,tw]⟩
theorem Fp:ag Tryz.prog FN.tab:=(ag.cons iW (ag.cons iP (ag.cons iV (ag.cons j8 (ag.cons tv ag.nil)))))
def GK:Cfg:=⟨[],[l9,l1,yP,CC,CE,BV]⟩
theorem Hn:ag Tryz.prog GK.tab:=(ag.cons iW (ag.cons iP (ag.cons ti (ag.cons Mb (ag.cons L0 (ag.cons ME ag.nil))))))
def EF:Cfg:=⟨aX,[l9,l1,r4,ny,DB]⟩
theorem DV:ag Tryz.prog EF.tab:=(ag.cons iW (ag.cons iP (ag.cons wM (ag.cons AE (ag.cons Mr ag.nil)))))
theorem l8 {A:Prop} (h:(!true)=true):A:=absurd h (by decide)
abbrev zEg1 (a:Chart):Chunk:=.cells [.pd (.str a.name),.pd (.lst .str a.events),.pd (.lst .var a.vars),.pd (.lst .stat a.states),.pd (.lst .tran a.trans)] 27
theorem GL (p:Past) (t:Tre c.states):ah Tryz.prog 96 [.e .chart c,.e .past p] [] (.x (.b (b6 c.states p))) []:=by
 have hfew:=t.shp.few
 have hl:c.states.length≤maxLen:=by unfold maxLen; omega
 have hst:(decide (p.state<0)||decide (p.state≥(c.states.length:Int)))=false→0≤p.state∧p.state<(c.states.length:Int):=fun h=>by
  rw [aw] at h
  have:=of_decide_eq_false h.1
  have:=of_decide_eq_false h.2
  omega
 have eN:((p.set.length:Int)==1)=(p.set.length==1):=by
  rw [aZ,beq_iff_eq,beq_iff_eq]; omega
 have eG:decide ((p.set.length:Int)>0)=decide (0<p.set.length):=by
  rw [aZ,decide_eq_true_eq,decide_eq_true_eq]; omega
 refine dg ES Tryz.func96 (let x1:ST:={ n:=85,fr:=[(2,.x (.c (.loc 0 0))),(3,.x (.c (.loc 1 0))),(4,.p (.bool false)),(5,.i (bk c.states (Past.state p)))],ck:=[zEg1 c,.cells [.i (Past.state p),.pd (.lst .int (Past.set p))] 40],kn:=[4] }; let x2:=(c.states.length:Int); let x3:=(ETy.get .stat c.states ((Past.state p).toNat)); .need ((decide (Past.state p<(0:Int))||decide (Past.state p≥x2))=false→(0:Int)≤Past.state p∧Past.state p<x2) (.ite (decide (Past.state p<(0:Int))||decide (Past.state p≥x2) || !aM (Stat.kind x3)) (.ret (.p (.bool false)) []) (.need (c.states.length≤maxLen) (.need ((0:Int)≤Past.state p∧Past.state p<x2) (.ite (Stat.kind x3==(5:Int)) (.stop [.code [1,1,1,0,1,0,0],.code [1,1,1,0,1,0,1],.code [1,1,1,1]] x1) (.stop [.code [1,1,1,1,0],.code [1,1,1,1,1]] x1)))))) fun Γ=>?_
 conv=>zeta
 unfold b6
 refine ⟨hst,fun hb=>?_,fun hb=>?_⟩
 · have hb':(decide (p.state<0)||decide (p.state≥(c.states.length:Int)) || !aM (ETy.get .stat c.states p.state.toNat).kind)=true:=hb
   rw [if_pos hb']; exact ⟨rfl,rfl⟩
 · have hb':(decide (p.state<0)||decide (p.state≥(c.states.length:Int)) || !aM (ETy.get .stat c.states p.state.toNat).kind)=false:=hb
   have hb2:=hb'
   rw [aw] at hb2
   have hin:=hst hb2.1
   have hi:p.state.toNat<c.states.length:=by omega
   have hp:aM (knd c.states p.state.toNat)=true:=by simpa using hb2.2
   obtain ⟨u,hu,hui,hul,hk2⟩:=mF t hi hp
   have hpar:bk c.states p.state=(u:Int):=by
    obtain ⟨q,hq⟩:=az hin.1
    rw [hq,jl t.right (by omega),dH t.shp (by omega)]
    rw [hq,ai] at hu; exact hu
   rw [if_neg (by rw [hb']; decide),hu,ai]
   refine ⟨hl,hin,fun h5=>?_,fun h5=>?_⟩
   · have h5':((ETy.get .stat c.states p.state.toNat).kind==5)=true:=h5
     rw [if_pos h5']
     cases h1:(p.set.length==1)
     · refine jg EK Tryz.func96 (let x1:=(((4,45,true,cn true (!true) none).2).2); let x2:=(↑((Past.set p).length):Int); let x3:=(((15,56,true,cn true (!true) none).2).2); .need ((x2==1) = !true) (.need (x1.2→False) (.need (x1.2→(0:Int)≤0∧(0:Int)<x2) (.need (x1.2→False) (.need ((!true&&false) = !true) (.need (x3.2→(0:Int)≤0∧(0:Int)<x2) (.need (x3.2→(0:Int)≤ETy.get .int (Past.set p) 0∧ETy.get .int (Past.set p) 0<(c.states.length:Int)) (.ret (.p (.bool false)) [])))))))) ?_
       conv=>zeta
       exact ⟨eN.trans h1,fun h=>l8 h,fun h=>l8 h,fun h=>l8 h,rfl,fun h=>l8 h,fun h=>l8 h,rfl,rfl⟩
     · have hlen:0<p.set.length:=by have:=eq_of_beq h1; omega
       cases h2:inB (bg c.states u) (ETy.get .int p.set 0)
       · refine jg Fv Tryz.func96 (let x1:=(↑((Past.set p).length):Int); let x2:=(((15,56,true,cn true (!true) none).2).2); let x3:=(bk c.states (Past.state p)); .need ((x1==1)=true) (.need (bW c.states x3=true) (.need ((0:Int)≤0∧(0:Int)<x1) (.need ((true&&inB (bg c.states (x3.toNat)) (ETy.get .int (Past.set p) 0)) = !true) (.need (x2.2→(0:Int)≤0∧(0:Int)<x1) (.need (x2.2→(0:Int)≤ETy.get .int (Past.set p) 0∧ETy.get .int (Past.set p) 0<(c.states.length:Int)) (.ret (.p (.bool false)) []))))))) ?_
         conv=>zeta
         exact ⟨eN.trans h1,by rw [hpar,fw t.right hul],⟨by omega,by omega⟩,by rw [hpar,ai,h2]; rfl,fun h=>l8 h,fun h=>l8 h,rfl,rfl⟩
       · have hk:=(er t.shp hul _).1 ((dT _ _).1 h2)
         obtain ⟨m,hm1,hm2,_⟩:=hk
         have hx:(0:Int)≤ETy.get .int p.set 0∧(ETy.get .int p.set 0:Int)<(c.states.length:Int):=by rw [hm1]; exact ⟨Int.natCast_nonneg m,Int.ofNat_lt.2 hm2⟩
         refine jg Fp Tryz.func96 (.need (((↑((Past.set p).length):Int)==1)=true) (.need (bW c.states (bk c.states (Past.state p))=true) (.need ((0:Int)≤0∧(0:Int)<(↑((Past.set p).length):Int)) (.need ((true&&inB (bg c.states ((bk c.states (Past.state p)).toNat)) (ETy.get .int (Past.set p) 0))=true) (.need ((0:Int)≤0∧(0:Int)<(↑((Past.set p).length):Int)) (.need ((0:Int)≤ETy.get .int (Past.set p) 0∧ETy.get .int (Past.set p) 0<(c.states.length:Int)) (.ret (.p (.bool (true && !aM (Stat.kind (ETy.get .stat c.states ((ETy.get .int (Past.set p) 0).toNat)))))) []))))))) ?_
         exact ⟨eN.trans h1,by rw [hpar,fw t.right hul],⟨by omega,by omega⟩,by rw [hpar,ai,h2]; rfl,⟨by omega,by omega⟩,hx,rfl,rfl⟩
   · have h5':((ETy.get .stat c.states p.state.toNat).kind==5)=false:=h5
     rw [if_neg (by rw [h5']; decide)]
     cases h1:decide (0<p.set.length)
     · refine jg Hn Tryz.func96 (let x1:=((((4,73,true,cn true (!true) none).2).2).2→False); .need (decide ((↑((Past.set p).length):Int)>0) = !true) (.need x1 (.need x1 (.need x1 (.ret (.p (.bool false)) []))))) ?_
       conv=>zeta
       exact ⟨eG.trans h1,fun h=>l8 h,fun h=>l8 h,fun h=>l8 h,rfl,rfl⟩
     · have hd:=nk t (iq t p.set) (c.states.length+1) u hul
       have he:=cR c.states hul
       have hdl:=Bq t p.set hul
       have hdd:∀ y∈dnM c.states p.set u,(0:Int)≤y∧y<(c.states.length:Int):=fun y hy=>by have:=hd.2 y hy; omega
       refine jg DV Tryz.func96 (.need (decide ((↑((Past.set p).length):Int)>0)=true) (.need (Tre c.states∧(0:Int)≤bk c.states (Past.state p)∧bk c.states (Past.state p)<(c.states.length:Int)) (.need ((dnM c.states (Past.set p) ((bk c.states (Past.state p)).toNat)).length≤1000∧∀ (y:ETy.den .int),y∈dnM c.states (Past.set p) ((bk c.states (Past.state p)).toNat)→(0:ETy.den .int)≤y∧y<(c.states.length:Int)) (.ret (.p (.bool (true&&bY c.states (dnM c.states (Past.set p) ((bk c.states (Past.state p)).toNat))==Past.set p))) [])))) ?_
       rw [hpar,ai]
       exact ⟨eG.trans h1,⟨t,by omega,by omega⟩,⟨by omega,hdd⟩,rfl,rfl⟩
def wu:Ent:=(96,fun
 | [.agg [.pd (.str a),.pd (.lst .str b),.pd (.lst .var c),.pd (.lst .stat d),.pd (.lst .tran e)],.agg [.pd (.int .i64 s),.pd (.lst .int l)]],[]=>some (some (Tre d),.x (.c (.pd (.bool (b6 d ⟨s,l⟩)))),[])
 | _,_=>none)
theorem Hw:EntOk Tryz.prog wu:=entOk fun vs ck=>by
 unfold wu; dsimp only; split
 · rename_i a b c d e s l; exact entS fun hp=>GL ⟨a,b,c,d,e⟩ ⟨s,l⟩ hp
 · exact entN
def xz:Cfg:=⟨aX,[wu]⟩
theorem uR:ag Tryz.prog xz.tab:=(ag.cons Hw ag.nil)
def gV:Option Int:=match k with
 | 0=>none
 | k+1=>some (ETy.get .past ps k).state
theorem Ef (hk:k<ps.length) (hm:ps.length≤maxLen):(decide ((k:Int)>0)&&decide ((ETy.get .past ps k).state≤(ETy.get .past ps (IntKind.wrap .i64 ((k:Int) - 1)).toNat).state)) = !lr (gV ps k) (ETy.get .past ps k).state:=by
 cases k with
 | zero=>rfl
 | succ k =>
   have e:IntKind.wrap .i64 (((k+1:Nat):Int) - 1)=(k:Int):=by
    have h2:=aB hk hm
    rw [show (((k+1:Nat):Int) - 1)=(k:Int) by omega,cm (n:=(k:Int)) (by omega) (by omega)]
   rw [e,ai,decide_eq_true (show ((k+1:Nat):Int)>0 by omega),aS]
   show decide (_≤_) = !decide (_<_)
   rw [aZ,decide_eq_true_eq,aJ,decide_eq_false_iff_not]
   omega
abbrev zEg3:List PI:=[.code [1,0,1,0,0],.inLoop [1,0,1,0,0],.inBlock 0,.code [1,1]]
theorem LZ (t:Tre c.states) (ps:List Past) (Γ:Ctx) (hm:ps.length≤maxLen):∀ (n k:Nat),ps.length - k≤n→k≤ps.length →
 J Tryz.prog 34 (au Tryz.f34) Γ (Eq2 (.x (.b (bB (b6 c.states) (gV ps k) (ps.drop k)))) []) zEg3 ({ n:=34,fr:=[(1,.p (.lst .past ps)),(2,.x (.c (.loc 0 0))),(4,.p (.bool false)),(7,.p (.lst .past ps)),(8,.i ps.length),(9,.i ((k:Int)))],ck:=[zEg1 c],kn:=[4] }):=by
 intro n
 induction n with
 | zero=>?_
 | succ n ih=>?_
 all_goals
  intro k hn hk
  refine jg uR Tryz.func34 (let x1:=(Past.state (ETy.get .past ps k)≤Past.state (ETy.get .past ps ((IntKind.wrap .i64 ((k:Int) - 1)).toNat))); .ite (decide ((k:Int)<(ps.length:Int))) (.need (inRg k ps.length) (.need ((((2,16,true,cn true (decide ((k:Int)>0)) none).2).2).2→(0:Int)≤IntKind.wrap .i64 ((k:Int) - 1)∧IntKind.wrap .i64 ((k:Int) - 1)<(ps.length:Int)) (.need ((((13,27,false,cn false (decide ((k:Int)>0)&&decide x1) none).2).2).2→Tre c.states) (.ite (decide ((k:Int)>0)&&decide x1 || !b6 c.states (ETy.get .past ps k)) (.ret (.p (.bool false)) []) (.stop zEg3 { n:=34,fr:=[(1,.p (.lst .past ps)),(2,.x (.c (.loc 0 0))),(4,.p (.bool false)),(7,.p (.lst .past ps)),(8,.i ps.length),(9,.i (IntKind.wrap .i64 ((k:Int)+1)))],ck:=[zEg1 c] }))))) (.ret (.p (.bool true)) [])) ?_
  conv=>zeta
  refine ⟨fun hlt=>?_,fun hge=>?_⟩
  · have hk':k<ps.length:=by have:=of_decide_eq_true hlt; omega
    have ed:ps.drop k=ETy.get .past ps k::ps.drop (k+1):=bt (t:=.past) (l:=ps) hk'
    have hbe:=Ef ps k hk' hm
    have e1:gV ps (k+1)=some (ETy.get .past ps k).state:=rfl
    have h2:=aB hk' hm
    rw [ed,gv,← e1]
    refine ⟨⟨by omega,by omega⟩,fun h=>?_,fun _=>t,fun hb=>?_,fun hb=>?_⟩
    · have h':decide ((k:Int)>0)=true:=h
      have:=of_decide_eq_true h'
      rw [cm (n:=(k:Int) - 1) (by omega) (by omega)]
      omega
    · have hb':(decide ((k:Int)>0)&&decide ((ETy.get .past ps k).state≤(ETy.get .past ps (IntKind.wrap .i64 ((k:Int) - 1)).toNat).state) || !b6 c.states (ETy.get .past ps k))=true:=hb
      rw [hbe] at hb'
      have:(lr (gV ps k) (ETy.get .past ps k).state&&b6 c.states (ETy.get .past ps k))=false:=by
       cases h1:lr (gV ps k) (ETy.get .past ps k).state <;> cases h2:b6 c.states (ETy.get .past ps k) <;> simp [h1,h2] at hb' ⊢
      rw [this]; exact ⟨rfl,rfl⟩
    · have hb':(decide ((k:Int)>0)&&decide ((ETy.get .past ps k).state≤(ETy.get .past ps (IntKind.wrap .i64 ((k:Int) - 1)).toNat).state) || !b6 c.states (ETy.get .past ps k))=false:=hb
      rw [hbe] at hb'
      have:(lr (gV ps k) (ETy.get .past ps k).state&&b6 c.states (ETy.get .past ps k))=true:=by
       cases h1:lr (gV ps k) (ETy.get .past ps k).state <;> cases h2:b6 c.states (ETy.get .past ps k) <;> simp [h1,h2] at hb' ⊢
      rw [this,aS,aU h2]
      first
      | (exfalso; omega)
      | exact J.kn [4] (ih (k+1) (by omega) (by omega))
  · rw [bH (l:=ps) (by have:=of_decide_eq_false hge; omega)]; exact ⟨rfl,rfl⟩
theorem Ay (t:Tre c.states):ah Tryz.prog 34 [.e .chart c,.l .past ps] [] (.x (.b (bB (b6 c.states) none ps))) []:=by
 refine dg uR Tryz.func34 (.stop zEg3 { n:=34,fr:=[(1,.p (.lst .past ps)),(2,.x (.c (.loc 0 0))),(4,.p (.bool false)),(7,.p (.lst .past ps)),(8,.i ps.length),(9,.i 0)],ck:=[zEg1 c],kn:=[4] }) fun Γ=>?_
 exact J.len 1 rfl fun hm=>LZ c t ps Γ hm ps.length 0 (by omega) (by omega)
def pz:Ent:=(34,fun
 | [.agg [.pd (.str a),.pd (.lst .str b),.pd (.lst .var c),.pd (.lst .stat d),.pd (.lst .tran e)],.c (.pd (.lst .past ps))],[]=>some (some (Tre d),.x (.c (.pd (.bool (bB (b6 d) none ps)))),[])
 | _,_=>none)
theorem C6:EntOk Tryz.prog pz:=entOk fun vs ck=>by
 unfold pz; dsimp only; split
 · rename_i a b c d e ps; exact entS fun hp=>Ay ⟨a,b,c,d,e⟩ ps hp
 · exact entN
def GC:Cfg:=⟨aX,[oN,pz]⟩
theorem FM:ag Tryz.prog GC.tab:=(ag.cons um (ag.cons C6 ag.nil))
theorem Aa (hz:c.vars.length≤2199023255552∧c.states.length≤2199023255552):ah Tryz.prog 11 [.e .chart c,.l .past ps] [] (.x (.b (bx c==0&&bB (b6 c.states) none ps))) []:=by
 refine dg FM Tryz.func11 (.need (c.vars.length≤2199023255552∧c.states.length≤2199023255552) (.need ((bx c==(0:Int))=true→Tre c.states) (.ret (.p (.bool (bx c==(0:Int)&&bB (b6 c.states) none ps))) []))) fun Γ=>?_
 exact ⟨hz,fun h=>((iT c).1 (eq_of_beq h)).tre,rfl,rfl⟩
def kS:Ent:=(11,fun
 | [.agg [.pd (.str a),.pd (.lst .str b),.pd (.lst .var c),.pd (.lst .stat d),.pd (.lst .tran e)],.c (.pd (.lst .past ps))],[]=>some (some (c.length≤2199023255552∧d.length≤2199023255552),.x (.c (.pd (.bool (bx ⟨a,b,c,d,e⟩==0&&bB (b6 d) none ps)))),[])
 | _,_=>none)
theorem mX:EntOk Tryz.prog kS:=entOk fun vs ck=>by
 unfold kS; dsimp only; split
 · rename_i a b c d e ps; exact entS fun hp=>Aa ⟨a,b,c,d,e⟩ ps hp
 · exact entN
end Go.Proofs.YtgfifkhbfdacjaaGreatDoor
namespace Go.Proofs.YtgfifkhbfdacjaaGreatDoor
open Go Go.Ev
set_option maxRecDepth 100000
def BX:Ent:=(54,fun
 | [.c (.pd (.lst .stat l)),.c (.pd (.int .i64 i))],[]=>some (some (False),.x (.c (.pd (.v (.slice none 0 0)))),[])
 | _,_=>none)
theorem Lq:EntOk Tryz.prog BX:=entOk fun vs ck=>by
 unfold BX; dsimp only; split
 · rename_i l i; exact entS fun hp=>hp.elim
 · exact entN
def BD:Ent:=(22,fun
 | [.c (.pd (.v (.slice none 0 0))),.c (.pd (.int .i64 s))],[]=>some (some (False),.x (.c (.pd (.bool false))),[])
 | _,_=>none)
theorem LF:EntOk Tryz.prog BD:=entOk fun vs ck=>by
 unfold BD; dsimp only; split
 · rename_i s; exact entS fun hp=>hp.elim
 · exact entN
def Ex:Cfg:=⟨aX,[fT,iD]⟩
theorem FJ:ag Tryz.prog Ex.tab:=(ag.cons fp (ag.cons gi ag.nil))
def DY:Cfg:=⟨[],[l9,l1,yP,BX,BD]⟩
theorem GN:ag Tryz.prog DY.tab:=(ag.cons iW (ag.cons iP (ag.cons ti (ag.cons Lq (ag.cons LF ag.nil)))))
def FE:Cfg:=⟨aX,[l9,l1,lC,qo,fT]⟩
theorem Gz:ag Tryz.prog FE.tab:=(ag.cons iW (ag.cons iP (ag.cons lO (ag.cons pG (ag.cons fp ag.nil)))))
def EC:Cfg:=⟨aX,[fT,qX,iO,oE]⟩
theorem Gb:ag Tryz.prog EC.tab:=(ag.cons fp (ag.cons Gw (ag.cons ld (ag.cons u7 ag.nil))))
theorem KA {A:Prop} (h:(!false)=false):A:=absurd h (by decide)
theorem Ll (l:List Ev.Stat) (f:Nat→Int→Bool) (i:Nat):(jh l f i).length≤l.length∧∀ y∈jh l f i,(0:Int)≤y∧y<(l.length:Int):=by
 unfold jh
 refine ⟨by rw [aP]; exact av (a7 _ _) (by simp),fun y hy=>?_⟩
 obtain ⟨j,hj,rfl⟩:=aV.1 hy
 have:=br.1 (ay.1 hj).1
 omega
abbrev zEh1 (a:Chart):Chunk:=.cells [.pd (.str a.name),.pd (.lst .str a.events),.pd (.lst .var a.vars),.pd (.lst .stat a.states),.pd (.lst .tran a.trans)] 27
variable (ps:List Past) (c:Chart) (i:Int)
theorem E6 (p:Past) (t:Tre c.states):ah Tryz.prog 35 [.e .chart c,.e .past p] [] (.x (.b (fB c.states p))) []:=by
 have hfew:=t.shp.few
 have hl:c.states.length≤maxLen:=by unfold maxLen; omega
 have hst:(decide (p.state<0)||decide (p.state≥(c.states.length:Int)))=false→0≤p.state∧p.state<(c.states.length:Int):=fun h=>by
  rw [aw] at h
  have:=of_decide_eq_false h.1
  have:=of_decide_eq_false h.2
  omega
 have eN:((p.set.length:Int) != 1) = !(p.set.length==1):=by
  have:((p.set.length:Int)==1)=(p.set.length==1):=by rw [aZ,beq_iff_eq,beq_iff_eq]; omega
  show (!((p.set.length:Int)==1))=_
  rw [this]
 have eZ:((p.set.length:Int)==0||decide ((p.set.length:Int)>(c.states.length:Int)))=(p.set.length==0||decide (p.set.length>c.states.length)):=by
  congr 1
  · rw [aZ,beq_iff_eq,beq_iff_eq]; omega
  · rw [aZ,decide_eq_true_eq,decide_eq_true_eq]; omega
 refine dg FJ Tryz.func35 (let x1:ST:={ n:=91,fr:=[(2,.x (.c (.loc 0 0))),(3,.x (.c (.loc 1 0))),(4,.p (.bool false)),(5,.i (aL c.states ((Past.state p).toNat)))],ck:=[zEh1 c,.cells [.i (Past.state p),.pd (.lst .int (Past.set p))] 40],kn:=[4] }; let x2:=(c.states.length:Int); let x3:=(ETy.get .stat c.states ((Past.state p).toNat)); .need ((decide (Past.state p<(0:Int))||decide (Past.state p≥x2))=false→(0:Int)≤Past.state p∧Past.state p<x2) (.ite (decide (Past.state p<(0:Int))||decide (Past.state p≥x2) || !aM (Stat.kind x3)) (.ret (.p (.bool false)) []) (.need ((0:Int)≤Past.state p∧Past.state p<x2∧c.states.length≤maxLen) (.need ((0:Int)≤Past.state p∧Past.state p<x2) (.ite (Stat.kind x3==(5:Int)) (.stop [.code [1,1,1,0,1,0,0,0],.code [1,1,1,0,1,0,0,1],.code [1,1,1,0,1,0,1],.code [1,1,1,1]] x1) (.ite ((↑((Past.set p).length):Int)==0||decide ((↑((Past.set p).length):Int)>x2)) (.ret (.p (.bool false)) []) (.stop [.code [1,1,1,1,1,0],.code [1,1,1,1,1,1]] x1))))))) fun Γ=>?_
 conv=>zeta
 unfold fB
 refine ⟨hst,fun hb=>?_,fun hb=>?_⟩
 · have hb':(decide (p.state<0)||decide (p.state≥(c.states.length:Int)) || !aM (ETy.get .stat c.states p.state.toNat).kind)=true:=hb
   rw [if_pos hb']; exact ⟨rfl,rfl⟩
 · have hb':(decide (p.state<0)||decide (p.state≥(c.states.length:Int)) || !aM (ETy.get .stat c.states p.state.toNat).kind)=false:=hb
   have hb2:=hb'
   rw [aw] at hb2
   have hin:=hst hb2.1
   have hi:p.state.toNat<c.states.length:=by omega
   have hp:aM (knd c.states p.state.toNat)=true:=by simpa using hb2.2
   obtain ⟨u,hu,hui,hul,hk2⟩:=mF t hi hp
   have hpar:aL c.states p.state.toNat=(u:Int):=by rw [dH t.shp hi]; exact hu
   rw [if_neg (by rw [hb']; decide)]
   refine ⟨⟨hin.1,hin.2,hl⟩,hin,fun h5=>?_,fun h5=>?_⟩
   · have h5':((ETy.get .stat c.states p.state.toNat).kind==5)=true:=h5
     rw [if_pos h5']
     cases h1:(p.set.length==1)
     · refine jg GN Tryz.func35 (.need (((↑((Past.set p).length):Int) != 1) = !false) (.need ((((4,45,false,cn false (!false) none).2).2).2→False) (.need ((((4,45,false,cn false (!false) none).2).2).2→(0:Int)≤0∧(0:Int)<(↑((Past.set p).length):Int)) (.need ((((4,45,false,cn false (!false) none).2).2).2→False) (.ite true (.ret (.p (.bool false)) []) (.stop [.code [1,1,1,0,1,0,1,0],.code [1,1,1,0,1,0,1,1],.code [1,1,1,1]] { n:=91,fr:=[(2,.x (.c (.loc 0 0))),(3,.x (.c (.loc 1 0))),(4,.p (.bool false)),(5,.i (aL c.states ((Past.state p).toNat)))],ck:=[zEh1 c,.cells [.i (Past.state p),.pd (.lst .int (Past.set p))] 40] })))))) ?_
       exact ⟨by rw [eN,h1],fun h=>KA h,fun h=>KA h,fun h=>KA h,fun _=>⟨rfl,rfl⟩,fun h=>absurd h (by decide)⟩
     · have hlen:0<p.set.length:=by have:=eq_of_beq h1; omega
       refine jg Gz Tryz.func35 (.need (((↑((Past.set p).length):Int) != 1)=false) (.need (c.states.length≤1466015503701) (.need ((0:Int)≤0∧(0:Int)<(↑((Past.set p).length):Int)) (.ite (false || !inB (cf c.states (aL c.states ((Past.state p).toNat)) c.states.length) (ETy.get .int (Past.set p) 0)) (.ret (.p (.bool false)) []) (.need ((0:Int)≤0∧(0:Int)<(↑((Past.set p).length):Int)) (.need ((0:Int)≤ETy.get .int (Past.set p) 0∧ETy.get .int (Past.set p) 0<(c.states.length:Int)) (.ret (.p (.bool !aM (Stat.kind (ETy.get .stat c.states ((ETy.get .int (Past.set p) 0).toNat))))) []))))))) ?_
       rw [hpar]
       refine ⟨by rw [eN,h1]; rfl,by omega,⟨by omega,by omega⟩,fun h2=>?_,fun h2=>?_⟩
       · have h2':(!inB (cf c.states (u:Int) c.states.length) (ETy.get .int p.set 0))=true:=by simpa using h2
         rw [h2']; exact ⟨rfl,rfl⟩
       · have h2':(!inB (cf c.states (u:Int) c.states.length) (ETy.get .int p.set 0))=false:=by simpa using h2
         have h3:inB (cf c.states (u:Int) c.states.length) (ETy.get .int p.set 0)=true:=by simpa using h2'
         obtain ⟨m,hm1,hm2,_⟩:=(lS t.shp hul _).1 ((dT _ _).1 h3)
         have hx:(0:Int)≤ETy.get .int p.set 0∧(ETy.get .int p.set 0:Int)<(c.states.length:Int):=by rw [hm1]; exact ⟨Int.natCast_nonneg m,Int.ofNat_lt.2 hm2⟩
         rw [h2']
         exact ⟨⟨by omega,by omega⟩,hx,rfl,rfl⟩
   · have h5':((ETy.get .stat c.states p.state.toNat).kind==5)=false:=h5
     rw [if_neg (by rw [h5']; decide)]
     refine ⟨fun hz=>?_,fun hz=>?_⟩
     · have hz':(p.set.length==0||decide (p.set.length>c.states.length))=true:=eZ.symm.trans hz
       rw [if_pos hz']; exact ⟨rfl,rfl⟩
     · have hz':(p.set.length==0||decide (p.set.length>c.states.length))=false:=eZ.symm.trans hz
       rw [if_neg (by rw [hz']; decide)]
       have hd:=Ll c.states (ee c.states p.set) u
       refine jg Gb Tryz.func35 (let x2:=((Past.state p).toNat); let x1:=(jh c.states (ee c.states (Past.set p)) ((aL c.states x2).toNat)); .need (c.states.length≤1000∧(0:Int)≤aL c.states x2∧aL c.states x2<(c.states.length:Int)) (.need (x1.length≤1000∧∀ (y:ETy.den .int),y∈jh c.states (ee c.states (Past.set p)) ((aL c.states x2).toNat)→(0:ETy.den .int)≤y∧y<(c.states.length:Int)) (.ret (.p (.bool (Past.set p==bY c.states x1))) []))) ?_
       conv=>zeta
       rw [hpar,ai]
       exact ⟨⟨by omega,by omega,by omega⟩,⟨by omega,hd.2⟩,rfl,rfl⟩
def wy:Ent:=(35,fun
 | [.agg [.pd (.str a),.pd (.lst .str b),.pd (.lst .var c),.pd (.lst .stat d),.pd (.lst .tran e)],.agg [.pd (.int .i64 s),.pd (.lst .int l)]],[]=>some (some (Tre d),.x (.c (.pd (.bool (fB d ⟨s,l⟩)))),[])
 | _,_=>none)
theorem HC:EntOk Tryz.prog wy:=entOk fun vs ck=>by
 unfold wy; dsimp only; split
 · rename_i a b c d e s l; exact entS fun hp=>E6 ⟨a,b,c,d,e⟩ ⟨s,l⟩ hp
 · exact entN
def xn:Cfg:=⟨aX,[wy]⟩
theorem vg:ag Tryz.prog xn.tab:=(ag.cons HC ag.nil)
abbrev zEh2:List PI:=[.code [1,0,1,0,0],.inLoop [1,0,1,0,0],.inBlock 0,.code [1,1]]
theorem GO (t:Tre c.states) (ps:List Past) (Γ:Ctx) (hm:ps.length≤maxLen):∀ (n k:Nat),ps.length - k≤n→k≤ps.length →
 J Tryz.prog 13 (au Tryz.f13) Γ (Eq2 (.x (.b (bB (fB c.states) (gV ps k) (ps.drop k)))) []) zEh2 ({ n:=37,fr:=[(1,.p (.lst .past ps)),(2,.x (.c (.loc 0 0))),(4,.p (.bool false)),(5,.i ((k:Int)))],ck:=[zEh1 c],kn:=[4] }):=by
 intro n
 induction n with
 | zero=>?_
 | succ n ih=>?_
 all_goals
  intro k hn hk
  refine jg vg Tryz.func13 (let x1:=(Past.state (ETy.get .past ps k)≤Past.state (ETy.get .past ps ((IntKind.wrap .i64 ((k:Int) - 1)).toNat))); let x2:=(((16,28,false,cn false (decide ((k:Int)>0)&&decide x1) none).2).2); let x3:=(((2,14,true,cn true (decide ((k:Int)>0)) none).2).2); .ite (decide ((k:Int)<(ps.length:Int))) (.need (x3.2→(0:Int)≤(k:Int)∧(k:Int)<(ps.length:Int)) (.need (x3.2→(0:Int)≤IntKind.wrap .i64 ((k:Int) - 1)∧IntKind.wrap .i64 ((k:Int) - 1)<(ps.length:Int)) (.need (x2.2→(0:Int)≤(k:Int)∧(k:Int)<(ps.length:Int)) (.need (x2.2→Tre c.states) (.ite (decide ((k:Int)>0)&&decide x1 || !fB c.states (ETy.get .past ps k)) (.ret (.p (.bool false)) []) (.stop zEh2 { n:=37,fr:=[(1,.p (.lst .past ps)),(2,.x (.c (.loc 0 0))),(4,.p (.bool false)),(5,.i (IntKind.wrap .i64 ((k:Int)+1)))],ck:=[zEh1 c] })))))) (.ret (.p (.bool true)) [])) ?_
  conv=>zeta
  refine ⟨fun hlt=>?_,fun hge=>?_⟩
  · have hk':k<ps.length:=by have:=of_decide_eq_true hlt; omega
    have ed:ps.drop k=ETy.get .past ps k::ps.drop (k+1):=bt (t:=.past) (l:=ps) hk'
    have hbe:=Ef ps k hk' hm
    have e1:gV ps (k+1)=some (ETy.get .past ps k).state:=rfl
    have h2:=aB hk' hm
    rw [ed,gv,← e1]
    refine ⟨fun _=>⟨by omega,by omega⟩,fun h=>?_,fun _=>⟨by omega,by omega⟩,fun _=>t,fun hb=>?_,fun hb=>?_⟩
    · have h':decide ((k:Int)>0)=true:=h
      have:=of_decide_eq_true h'
      rw [cm (n:=(k:Int) - 1) (by omega) (by omega)]
      omega
    · have hb':(decide ((k:Int)>0)&&decide ((ETy.get .past ps k).state≤(ETy.get .past ps (IntKind.wrap .i64 ((k:Int) - 1)).toNat).state) || !fB c.states (ETy.get .past ps k))=true:=hb
      rw [hbe] at hb'
      have:(lr (gV ps k) (ETy.get .past ps k).state&&fB c.states (ETy.get .past ps k))=false:=by
       cases h1:lr (gV ps k) (ETy.get .past ps k).state <;> cases h2:fB c.states (ETy.get .past ps k) <;> simp [h1,h2] at hb' ⊢
      rw [this]; exact ⟨rfl,rfl⟩
    · have hb':(decide ((k:Int)>0)&&decide ((ETy.get .past ps k).state≤(ETy.get .past ps (IntKind.wrap .i64 ((k:Int) - 1)).toNat).state) || !fB c.states (ETy.get .past ps k))=false:=hb
      rw [hbe] at hb'
      have:(lr (gV ps k) (ETy.get .past ps k).state&&fB c.states (ETy.get .past ps k))=true:=by
       cases h1:lr (gV ps k) (ETy.get .past ps k).state <;> cases h2:fB c.states (ETy.get .past ps k) <;> simp [h1,h2] at hb' ⊢
      rw [this,aS,aU h2]
      first
      | (exfalso; omega)
      | exact J.kn [4] (ih (k+1) (by omega) (by omega))
  · rw [bH (l:=ps) (by have:=of_decide_eq_false hge; omega)]; exact ⟨rfl,rfl⟩
theorem Gl (ps:List Past) (t:Tre c.states):ah Tryz.prog 13 [.e .chart c,.l .past ps] [] (.x (.b (bB (fB c.states) none ps))) []:=by
 refine dg vg Tryz.func13 (.stop zEh2 { n:=37,fr:=[(1,.p (.lst .past ps)),(2,.x (.c (.loc 0 0))),(4,.p (.bool false)),(5,.i 0)],ck:=[zEh1 c],kn:=[4] }) fun Γ=>?_
 exact J.len 1 rfl fun hm=>GO c t ps Γ hm ps.length 0 (by omega) (by omega)
def vX:Ent:=(13,fun
 | [.agg [.pd (.str a),.pd (.lst .str b),.pd (.lst .var c),.pd (.lst .stat d),.pd (.lst .tran e)],.c (.pd (.lst .past ps))],[]=>some (some (Tre d),.x (.c (.pd (.bool (bB (fB d) none ps)))),[])
 | _,_=>none)
theorem I0:EntOk Tryz.prog vX:=entOk fun vs ck=>by
 unfold vX; dsimp only; split
 · rename_i a b c d e ps; exact entS fun hp=>Gl ⟨a,b,c,d,e⟩ ps hp
 · exact entN
/-! ### find -/
def rI:Cfg:=⟨aX,[]⟩
theorem oy:ag Tryz.prog rI.tab:=ag.nil
theorem ER {ps:List Past} {i:Int} {k:Nat} (hk:k<ps.length):(ps.drop k).find? (fun p=>p.state==i)=if ((ETy.get .past ps k).state==i)=true then some (ETy.get .past ps k) else (ps.drop (k+1)).find? fun p=>p.state==i:=by
 have ed:ps.drop k=ETy.get .past ps k::ps.drop (k+1):=bt (t:=.past) (l:=ps) hk
 rw [ed,List.find?_cons]
 cases (ETy.get .past ps k).state==i <;> rfl
theorem A9 (q:Option Past) (Γ:Ctx) (hm:ps.length≤maxLen):∀ (n k:Nat),ps.length - k≤n→k≤ps.length→((ps.drop k).find? fun p=>p.state==i)=q →
 J Tryz.prog 55 (au Tryz.f55) Γ (Eq2 (match q with | some p=>.tup [.agg [.pd (.int .i64 p.state),.pd (.lst .int p.set)],.b true] | none=>.tup [.agg [.pd (.int .i64 0),.pd (.v (.slice none 0 0))],.b false]) []) zEh2 ({ n:=25,fr:=[(0,.p (.lst .past ps)),(1,.i i),(4,.x (.c (.loc 0 0))),(5,.p (.bool false)),(6,.i ((k:Int)))],ck:=[.cells [.i 0,.pd (.v (Value.slice none 0 0))] 40],kn:=[5] }):=by
 intro n
 induction n with
 | zero=>?_
 | succ n ih=>?_
 all_goals
  intro k hn hk hq
  refine jg oy Tryz.func55 (.ite (decide ((k:Int)<(ps.length:Int))) (.need (inRg k ps.length) (.ite (Past.state (ETy.get .past ps k)==i) (.need (inRg k ps.length) (.ret (.tup [.agg [.i (Past.state (ETy.get .past ps k)),.pd (.lst .int (Past.set (ETy.get .past ps k)))],.p (.bool true)]) [])) (.stop zEh2 { n:=25,fr:=[(0,.p (.lst .past ps)),(1,.i i),(4,.x (.c (.loc 0 0))),(5,.p (.bool false)),(6,.i (IntKind.wrap .i64 ((k:Int)+1)))],ck:=[.cells [.i 0,.pd (.v (Value.slice none 0 0))] 40],kn:=[5] }))) (.ret (.tup [.agg [.i 0,.pd (.v (Value.slice none 0 0))],.p (.bool false)]) [])) ?_
  refine ⟨fun hlt=>?_,fun hge=>?_⟩
  · have hk':k<ps.length:=by have:=of_decide_eq_true hlt; omega
    rw [ER hk'] at hq
    refine ⟨⟨by omega,by omega⟩,fun hb=>?_,fun hb=>?_⟩
    · rw [if_pos (by exact hb)] at hq
      subst hq
      exact ⟨⟨by omega,by omega⟩,rfl,rfl⟩
    · have hb':((ETy.get .past ps k).state==i)=false:=hb
      rw [if_neg (by rw [hb']; decide)] at hq
      rw [aU (aB hk' hm)]
      first
      | (exfalso; omega)
      | exact ih (k+1) (by omega) (by omega) hq
  · rw [bH (l:=ps) (by have:=of_decide_eq_false hge; omega)] at hq
    have hq':none=q:=hq
    subst hq'
    exact ⟨rfl,rfl⟩
abbrev zEh3 (a:List Past) (b:Int):ST:={ n:=25,fr:=[(0,.p (.lst .past a)),(1,.i b),(4,.x (.c (.loc 0 0))),(5,.p (.bool false)),(6,.i 0)],ck:=[.cells [.i 0,.pd (.v (Value.slice none 0 0))] 40],kn:=[5] }
theorem CI (h:(dQ ps i).isSome=true):ah Tryz.prog 55 [.l .past ps,.i i] [] (.tup [.agg [.pd (.int .i64 i),.pd (.lst .int ((dQ ps i).getD ⟨0,[]⟩).set)],.b true]) []:=by
 obtain ⟨p,hp⟩:=dt.1 h
 have hs:=(qn hp).2
 refine dg oy Tryz.func55 (.stop zEh2 (zEh3 ps i)) fun Γ=>?_
 refine J.len 0 rfl fun hm=>?_
 have h1:=A9 ps i (some p) Γ hm ps.length 0 (by omega) (by omega) hp
 rw [hp]
 simp only [hs] at h1
 exact h1
theorem BG (h:dQ ps i=none):ah Tryz.prog 55 [.l .past ps,.i i] [] (.tup [.agg [.pd (.int .i64 0),.pd (.v (.slice none 0 0))],.b false]) []:=by
 refine dg oy Tryz.func55 (.stop zEh2 (zEh3 ps i)) fun Γ=>?_
 exact J.len 0 rfl fun hm=>A9 ps i none Γ hm ps.length 0 (by omega) (by omega) h
def qW:Ent:=(55,fun
 | [.c (.pd (.lst .past ps)),.c (.pd (.int .i64 i))],[]=>some (some ((dQ ps i).isSome=true),.tup [.agg [.pd (.int .i64 i),.pd (.lst .int ((dQ ps i).getD ⟨0,[]⟩).set)],.b true],[])
 | _,_=>none)
theorem G2:EntOk Tryz.prog qW:=entOk fun vs ck=>by
 unfold qW; dsimp only; split
 · rename_i ps i; exact entS fun hp=>CI ps i hp
 · exact entN
def q8:Ent:=(55,fun
 | [.c (.pd (.lst .past ps)),.c (.pd (.int .i64 i))],[]=>some (some (dQ ps i=none),.tup [.agg [.pd (.int .i64 0),.pd (.v (.slice none 0 0))],.b false],[])
 | _,_=>none)
theorem GI:EntOk Tryz.prog q8:=entOk fun vs ck=>by
 unfold q8; dsimp only; split
 · rename_i ps i; exact entS fun hp=>BG ps i hp
 · exact entN
end Go.Proofs.YtgfifkhbfdacjaaGreatDoor
