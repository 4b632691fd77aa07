/- Contracts: the document's Over. Conditions: sizes. Contracts: the law ConfOver. Conditions: sizes. Numbers among the law's arguments. Conditions: none. The law ConfOver, whole, its card. Conditions: the library's tables as they are laid. Contracts: lists of texts alike. Conditions: none. -/
import Derived.Test.YtcopfgbbjdefbaaGreatDoorCy
import Derived.Test.YtcopfgbbjdefbaaGreatDoorLx
import Derived.Test.YtcopfgbbjdefbaaGreatDoorCv
import Derived.Test.YtcopfgbbjdefbaaGreatDoorJz
namespace Go.Proofs.YtcopfgbbjdefbaaGreatDoor
open Go Go.Ev
set_option maxRecDepth 100000
def il (l:List Ev.Stat) (s:List Int) (i:Int):Bool:=e9 l s (l.length+1) i
variable (c:Chart) (s:List Int) (i:Int) {l:List Ev.Stat}
def rN (k:Int):Prop:=ah Tryz.prog 29 [.e .chart c,.l .int s,.i k] [] (.x (.b (il c.states s k))) []
def vk:Ent:=(29,fun
 | [.agg [.pd (.str a),.pd (.lst .str b),.pd (.lst .var c),.pd (.lst .stat d),.pd (.lst .tran e)],.c (.pd (.lst .int s)),.c (.pd (.int .i64 k))],[]=>some (some (rN ⟨a,b,c,d,e⟩ s k),.x (.c (.pd (.bool (il d s k)))),[])
 | _,_=>none)
theorem GI:EntOk Tryz.prog vk:=entOk fun vs ck=>by
 unfold vk; dsimp only; split
 · rename_i a b c d e s k; exact entS fun hp=>hp
 · exact entN
def wu:Cfg:=⟨aX,[si,kO,vk]⟩
theorem te:ag Tryz.prog wu.tab:=(ag.cons sJ (ag.cons lu (ag.cons GI ag.nil)))
abbrev zDb1 (a:Chart):Chunk:=.cells [.pd (.str a.name),.pd (.lst .str a.events),.pd (.lst .var a.vars),.pd (.lst .stat a.states),.pd (.lst .tran a.trans)] 27
abbrev zDb2:List PI:=[.code [1,1,1,1,1,0,1,0,0],.inLoop [1,1,1,1,1,0,1,0,0],.inBlock 0,.code [1,1,1,1,1,1]]
theorem Kv (ks:List Int) (i:Nat) (hi:i<c.states.length) (hl:ks.length≤maxLen) (hks:∀ y∈ks,rN c s y∧0≤y∧y<(c.states.length:Int)) (res:Bool) (Γ:Ctx):∀ (n k:Nat) (al on:Bool),ks.length - k≤n→k≤ks.length →
 ((ETy.get .stat c.states i).kind==3&&(al&&(ks.drop k).all fun y=>il c.states s y)||(ETy.get .stat c.states i).kind==2&&(on||(ks.drop k).any fun y=>(ETy.get .stat c.states y.toNat).kind==4&&inB s y))=res →
 J Tryz.prog 29 (aw Tryz.f29) Γ (Eq2 (.x (.b res)) []) zDb2 ({ n:=89,fr:=[(1,.p (.lst .int s)),(2,.i i),(3,.x (.c (.loc 0 0))),(6,.p (.bool false)),(7,.x (.c (.own 1))),(8,.p (.bool al)),(9,.p (.bool on)),(10,.i ((k:Int)))],ck:=[zDb1 c,.own 3 .int ks],kn:=[6] }):=by
 intro n
 induction n with
 | zero=>?_
 | succ n ih=>?_
 all_goals
  intro k al on hn hk hr
  refine jg te Tryz.func29 (let x4:=(ETy.get .stat c.states (Int.toNat (ETy.get .int ks k))); let x1:=(Prod.snd (Prod.snd (12,58,true,cE true (Stat.kind x4==(4:Int)) (some (1,47,false,cE false on none))))); let x2:=(Prod.snd (Prod.snd (1,47,false,cE false on none))); let x3:=(Prod.snd (Prod.snd (1,37,true,cE true al none))); let x5:=(ETy.get .stat c.states i); .ite (decide ((k:Int)<(ks.length:Int))) (.need (Prod.snd x3→(0:Int)≤(k:Int)∧(k:Int)<(ks.length:Int)) (.need (Prod.snd x3→k<ks.length) (.need (Prod.snd x3→rN c s (ETy.get .int ks k)) (.need (Prod.snd x2→(0:Int)≤(k:Int)∧(k:Int)<(ks.length:Int)) (.need (Prod.snd x2→k<ks.length) (.need (Prod.snd x2→(0:Int)≤ETy.get .int ks k∧ETy.get .int ks k<(c.states.length:Int)) (.need (Prod.snd x1→(0:Int)≤(k:Int)∧(k:Int)<(ks.length:Int)) (.need (Prod.snd x1→k<ks.length) (.stop zDb2 { n:=89,fr:=[(9,.p (.bool (on||Stat.kind x4==(4:Int)&&inB s (ETy.get .int ks k)))),(8,.p (.bool (al&&il c.states s (ETy.get .int ks k)))),(1,.p (.lst .int s)),(2,.i i),(3,.x (.c (.loc 0 0))),(6,.p (.bool false)),(7,.x (.c (.own 1))),(10,.i (IntKind.wrap .i64 ((k:Int)+1)))],ck:=[zDb1 c,.own 3 .int ks] }))))))))) (.need (inRg i c.states.length) (.need ((Stat.kind x5==(3:Int)&&al)=false→(0:Int)≤(i:Int)∧(i:Int)<(c.states.length:Int)) (.ret (.p (.bool (Stat.kind x5==(3:Int)&&al||Stat.kind x5==(2:Int)&&on))) [])))) ?_
  conv=>zeta
  refine ⟨fun hlt=>?_,fun hge=>?_⟩
  · have hk':k<ks.length:=by have:=of_decide_eq_true hlt; omega
    have hy:=hks (ETy.get .int ks k) (by rw [ETy.get_eq (t:=.int) (List.getElem?_eq_getElem hk')]; exact bf hk')
    rw [bI (t:=.int) (l:=ks) hk',cU,b7] at hr
    have hb:(0:Int)≤(k:Int)∧(k:Int)<(ks.length:Int):=by omega
    refine ⟨fun _=>hb,fun _=>hk',fun _=>hy.1,fun _=>hb,fun _=>hk',fun _=>hy.2,fun _=>hb,fun _=>hk',?_⟩
    rw [aZ (aC hk' hl)]
    first
    | (exfalso; omega)
    | refine J.kn [6] (J.frame (fun p hp=>?_) (ih (k+1) (al&&il c.states s (ETy.get .int ks k)) (on||((ETy.get .stat c.states (ETy.get .int ks k).toNat).kind==4&&inB s (ETy.get .int ks k))) (by omega) (by omega) (by rw [eR,e8]; exact hr)))
      simp only [aH,List.not_mem_nil,or_false] at hp
      rcases hp with rfl | rfl | rfl | rfl | rfl | rfl | rfl | rfl <;> repeat (first | exact List.Mem.head _ | apply List.Mem.tail)
  · have hke:ks.drop k=[]:=bT (by have:=of_decide_eq_false hge; omega)
    rw [hke,List.all_nil,List.any_nil,cW,bD] at hr
    have hb:(0:Int)≤(i:Int)∧(i:Int)<(c.states.length:Int):=by omega
    exact ⟨hb,fun _=>hb,congrArg (fun b=>SV.x (.c (.pd (.bool b)))) hr,rfl⟩
theorem qZ {l:List Ev.Stat} (t:Tre l) (s:List Int):∀ (n m:Nat) (i:Int),(∀ k:Nat,i=(k:Int)→l.length - k<n∧l.length - k<m)→0<n→0<m→e9 l s n i=e9 l s m i
 | 0,_,_,_,h,_=>by omega
 | _+1,0,_,_,_,h=>by omega
 | n + 1,m+1,i,hnm,_,_=>by
   rw [e9,e9]
   by_cases hb:(decide (i<0)||decide (i≥(l.length:Int)) || !inB s i)=true
   · rw [if_pos hb,if_pos hb]
   · rw [if_neg hb,if_neg hb]
     have hb2:(decide (i<0)||decide (i≥(l.length:Int)) || !inB s i)=false:=by simpa using hb
     have hi:=A6 hb2
     obtain ⟨k,rfl⟩:=aD hi.1
     have hk:k<l.length:=by omega
     have h0:=hnm k rfl
     have e:(bF l (k:Int) l.length).all (fun k=>e9 l s n k)=(bF l (k:Int) l.length).all (fun k=>e9 l s m k):=by
      rw [cY,cY]
      congr 1
      refine oH fun y hy=>?_
      rw [← mr t.shp hk] at hy
      obtain ⟨q,rfl,e2,e3,_,_⟩:=cD t hk hy
      rw [qZ t s n m q (fun k' e=>by
       have:k'=q:=by omega
       subst this; omega) (by omega) (by omega)]
     rw [e]
theorem L7 (t:Tre l) (s:List Int) {k:Nat} (hk:k<l.length) (hin:inB s (k:Int)=true):il l s (k:Int)=((ETy.get .stat l k).kind==3&&(bF l (k:Int) l.length).all (fun y=>il l s y)||(ETy.get .stat l k).kind==2&&(bF l (k:Int) l.length).any fun y=>(ETy.get .stat l y.toNat).kind==4&&inB s y):=by
 unfold il
 rw [e9,hin,decide_eq_false (by omega),decide_eq_false (by omega),if_neg (by decide),ai]
 have e:(bF l (k:Int) l.length).all (fun k=>e9 l s l.length k)=(bF l (k:Int) l.length).all (fun k=>e9 l s (l.length+1) k):=by
  rw [cY,cY]
  congr 1
  refine oH fun y hy=>?_
  rw [← mr t.shp hk] at hy
  obtain ⟨q,rfl,e2,e3,_,_⟩:=cD t hk hy
  rw [qZ t s l.length (l.length+1) q (fun k' e=>by
   have:k'=q:=by omega
   subst this; omega) (by omega) (by omega)]
 rw [e]
theorem J6 {s:List Int} {i:Int} (h:(decide (i<0)||decide (i≥(l.length:Int)) || !inB s i)=true):il l s i=false:=by
 unfold il
 rw [e9,if_pos h]
theorem LJ (t:Tre c.states) (s:List Int):∀ (n:Nat) (i:Int),(∀ k:Nat,i=(k:Int)→c.states.length - k≤n)→rN c s i:=by
 have hfew:=t.shp.few
 intro n
 induction n with
 | zero=>?_
 | succ n ih=>?_
 all_goals
  intro i hi
  unfold rN
  refine dg te Tryz.func29 (.ite (decide (i<(0:Int))||decide (i≥(c.states.length:Int)) || !inB s i) (.ret (.p (.bool false)) []) (.need (c.states.length≤1466015503701) (.stop zDb2 { n:=89,fr:=[(1,.p (.lst .int s)),(2,.i i),(3,.x (.c (.loc 0 0))),(6,.p (.bool false)),(7,.x (.c (.own 1))),(8,.p (.bool true)),(9,.p (.bool false)),(10,.i 0)],ck:=[zDb1 c,.own 3 .int (bF c.states i c.states.length)],kn:=[9,8,6] }))) fun Γ=>?_
  refine ⟨fun h1=>⟨congrArg (fun b=>SV.x (.c (.pd (.bool b)))) (J6 h1).symm,rfl⟩,fun h1=>?_⟩
  have hr:=A6 h1
  obtain ⟨k,rfl⟩:=aD hr.1
  have hk:k<c.states.length:=by omega
  have hik:=hi k rfl
 · omega
 · refine ⟨by omega,J.kn [6] ?_⟩
   have hin:inB s (k:Int)=true:=by
    rw [ay] at h1
    simpa using h1.2
   rw [L7 t s hk hin]
   have hrl:=kG c.states (k:Int) c.states.length
   refine Kv c s (bF c.states (k:Int) c.states.length) k hk (by unfold maxLen; omega) ?_ _ Γ (bF c.states (k:Int) c.states.length).length 0 true false (by omega) (by omega) ?_
   all_goals try rw [cK,aU,a6]
   intro y hy
   have hy2:=hy
   rw [← mr t.shp hk] at hy2
   obtain ⟨q,rfl,e2,e3,_,_⟩:=cD t hk hy2
   exact ⟨ih q fun k' e=>by
    have:k'=q:=by omega
    subst this; omega,Int.natCast_nonneg q,Int.ofNat_lt.2 e2⟩
theorem Cp (t:Tre c.states):ah Tryz.prog 29 [.e .chart c,.l .int s,.i i] [] (.x (.b (il c.states s i))) [] :=
 LJ c t s (c.states.length+1) i (fun k _=>by omega)
def qP:Ent:=(29,fun
 | [.agg [.pd (.str a),.pd (.lst .str b),.pd (.lst .var c),.pd (.lst .stat d),.pd (.lst .tran e)],.c (.pd (.lst .int s)),.c (.pd (.int .i64 k))],[]=>some (some (Tre d),.x (.c (.pd (.bool (il d s k)))),[])
 | _,_=>none)
theorem FZ:EntOk Tryz.prog qP:=entOk fun vs ck=>by
 unfold qP; dsimp only; split
 · rename_i a b c d e s k; exact entS fun hp=>Cp ⟨a,b,c,d,e⟩ s k hp
 · exact entN
theorem Mp (t:Tre l) {s:List Int} (h:Lgl l s) (i:Int):ovM l s i=il l s i:=AU t h _ i
end Go.Proofs.YtcopfgbbjdefbaaGreatDoor
namespace Go.Proofs.YtcopfgbbjdefbaaGreatDoor
open Go Go.Ev
set_option maxRecDepth 100000
/-! ### lists that a call leaves, where nobody writes -/
theorem DB (l:List Int) (h:room l.length 8):ah Tryz.prog 15 [.l .int l] [] (.x (.c (.pd (.lst .int l)))) []:=ah.chop (ck':=[]) (ah.frz aX [0] (nv l h) rfl rfl)
def lj:Ent:=(15,fun
 | [.c (.pd (.lst .int l))],[]=>some (some (room l.length 8),.x (.c (.pd (.lst .int l))),[])
 | _,_=>none)
theorem kS:EntOk Tryz.prog lj:=entOk fun vs ck=>by
 unfold lj; dsimp only; split
 · rename_i l; exact entS fun hp=>DB l hp
 · exact entN
variable (c:Chart) {l:List Ev.Stat} (p:List Int)
theorem Bn (h:Tre c.states∧∀ b∈p,0≤b∧b≤255):ah Tryz.prog 17 [.e .chart c,.l .byte p] [] (.x (.c (.pd (.lst .int (dx c.states (chM c.states p)))))) []:=ah.chop (ck':=[]) (ah.frz aX [0] (tn c h.1 p h.2) rfl rfl)
def nJ:Ent:=(17,fun
 | [.agg [.pd (.str a),.pd (.lst .str b),.pd (.lst .var c),.pd (.lst .stat d),.pd (.lst .tran e)],.c (.pd (.lst .byte p))],[]=>some (some (Tre d∧∀ b∈p,0≤b∧b≤255),.x (.c (.pd (.lst .int (dx d (chM d p))))),[])
 | _,_=>none)
theorem ui:EntOk Tryz.prog nJ:=entOk fun vs ck=>by
 unfold nJ; dsimp only; split
 · rename_i a b c d e p; exact entS fun hp=>Bn ⟨a,b,c,d,e⟩ p hp
 · exact entN
theorem xf (t:Tre l) {p:List Int} (hp:∀ b∈p,0≤b∧b≤255):(dx l (chM l p)).length≤40:=by
 have hg:=(jF t.shp _).2 (jY t (j7 t hp))
 have:=(n5 hg).2
 have:=t.shp.few
 omega
def EK:Cfg:=⟨aX,[jh,ir,lj,nJ,qV,qP]⟩
theorem Ed:ag Tryz.prog EK.tab:=(ag.cons lS (ag.cons kJ (ag.cons kS (ag.cons ui (ag.cons FU (ag.cons FZ ag.nil))))))
theorem Hn (S:Shp l) {s:List Int} (h:Lgl l s):1≤s.length∧bb l (s.drop 1)=false:=by
 have h0:(0:Int)∈s:=h.root 0 S.pos S.d0
 refine ⟨List.length_pos_of_mem h0,?_⟩
 cases hb:bb l (s.drop 1) with
 | false=>rfl
 | true =>
   exfalso
   have h2:=(jF S _).1 hb
   have h3:(0:Int)∈s.drop 1:=h2.root 0 S.pos S.d0
   match s,h with
   | [],h=>simp at h3
   | a::r,h =>
     obtain ⟨i,e,_,_⟩:=h.rng a (az ..)
     have:=(cO.1 h.inc).1 0 h3
     omega
theorem Ge (i:Int) (h:kp c) (hp:∀ b∈p,0≤b∧b≤255):ah Tryz.prog 8 [.e .chart c,.l .byte p,.i i] [] (.x (.b true)) []:=by
 have hz:=sO h
 have hb:=xc h
 refine dg Ed Tryz.func8 (let x1:=(dx c.states (chM c.states p)); let x2:=(c.vars.length≤2199023255552∧c.states.length≤2199023255552); let x3:=((dJ x1 (some (1:Int)) none).2); .ite false (.ret (.p (.bool false)) []) (.need (∀ (s:ETy.den .stat),s∈c.states→s.entry.length≤4398046511104∧s.leave.length≤4398046511104) (.ite (!bj c==(0:Int)) (.need x2 (.ret (.p (.bool !(bj c==(0:Int)&&bb c.states [(0:Int)]&&ovM c.states [(0:Int)] i))) [])) (.need (Tre c.states∧∀ (b:ETy.den .byte),b∈p→(0:ETy.den .byte)≤b∧b≤(255:ETy.den .byte)) (.need (room (x1.length) 8) (.need x2 (.need (Tre c.states) (.ite (!(bj c==(0:Int)&&bb c.states x1&&ovM c.states x1 i)==il c.states x1 i) (.ret (.p (.bool false)) []) (.need ((0:Int)≤1∧(1:Int)≤(↑(x1.length):Int)) (.need x2 (.ret (.p (.bool !(bj c==(0:Int)&&bb c.states x3&&ovM c.states x3 i))) []))))))))))) fun Γ=>?_
 conv=>zeta
 refine ⟨fun h0=>absurd h0 (by decide),fun _=>⟨hb,fun h1=>⟨⟨hz.1,by omega⟩,?_,rfl⟩,fun h1=>?_⟩⟩
 · have h1':(!bj c==0)=true:=h1
   have h2:(bj c==0)=false:=by simpa using h1'
   exact congrArg (fun b=>SV.x (.c (.pd (.bool b)))) (show (!(bj c==0&&bb c.states [0]&&ovM c.states [0] i))=true from by rw [h2]; rfl)
 · have h1':(!bj c==0)=false:=h1
   have h2:(bj c==0)=true:=by simpa using h1'
   have hv:=(c8 c).1 (eq_of_beq h2)
   have t:=hv.tre
   have hL:=jY t (j7 t hp)
   have hg:=(jF t.shp _).2 hL
   have hlen:=xf t hp
   have hoff:=Hn t.shp hL
   have hov:=Mp t hL i
   generalize dx c.states (chM c.states p)=s at hg hlen hoff hov
   refine ⟨⟨t,hp⟩,⟨by omega,by unfold maxLen; omega⟩,⟨hz.1,by omega⟩,t,fun h3=>?_,fun _=>⟨⟨by omega,by omega⟩,⟨hz.1,by omega⟩,?_,rfl⟩⟩
   · have h3':(!(bj c==0&&bb c.states s&&ovM c.states s i)==il c.states s i)=true:=h3
     rw [h2,hg,hov] at h3'
     simp at h3'
   · exact congrArg (fun b=>SV.x (.c (.pd (.bool b)))) (show (!(bj c==0&&bb c.states (s.drop 1)&&ovM c.states (s.drop 1) i))=true from by rw [hoff.2]; simp)
end Go.Proofs.YtcopfgbbjdefbaaGreatDoor
namespace Go.Proofs.YtcopfgbbjdefbaaGreatDoor
open Go Go.Ev Go.RowKit Go.ChangeShapes Go.WideShapes Go.ChangeAt
set_option maxRecDepth 100000
theorem Lh {Hh:Type} {enc:TypeId×Value→Hh} {W:World} {base:Nat} {spare:Nat→Bool} {held:Bool} {v:Value} {d:DataW Hh} {ps:List MemPlace} {b0:Nat} (h:DataW.Trod enc Tryz.prog W base spare held 3 v d ps) (hv:Value.okWide Tryz.prog W .any b0 3 v) :
 ∃ n:Int,SX.R (VW W) (.c (.pd (.int .i64 n))) v∧-9223372036854775808≤n∧n≤9223372036854775807:=by
 have hv':Cell.okWide Tryz.prog W .any b0 3 v:=by simpa only [Value.okWide,Tryz.underlying3] using hv
 obtain ⟨fuel,hf⟩:=h
 have hc:v.cells.toList=[v]:=by
  have hv2:=hv'
  simp only [Cell.okWide,Tryz.underlying3,Cell.ok] at hv2
  cases v <;> first | rfl | exact hv2.elim
 rw [hc] at hf
 obtain ⟨n,h1,_,h2⟩:=DataW.trod_int Tryz.underlying3 hf
 simp only [dC,and_true] at h1
 subst h1
 simp only [Lit.wf,af,decide_eq_true_eq] at h2
 have e1:IntKind.i64.min = -9223372036854775808:=by decide
 have e2:IntKind.i64.max=9223372036854775807:=by decide
 rw [e1,e2] at h2
 exact ⟨n,.int _ n,h2.1,h2.2⟩
end Go.Proofs.YtcopfgbbjdefbaaGreatDoor
namespace Go.Proofs.YtcopfgbbjdefbaaGreatDoor
open Go Go.Ev Go.RowKit Go.ChangeShapes Go.WideShapes Go.ChangeAt
set_option maxRecDepth 100000
theorem xv (os:Os):laidMet Tryz.prog Rows.confOverRow.laid ((fw os).forCall (fun _ _=>0) ⟨#[],#[.agg #[.string .empty,.slice none 0 0,.slice none 0 0,.slice none 0 0,.slice none 0 0],.slice none 0 0,.int .i64 0],[]⟩).memory :=
 laidMet_of_run' 8 (by kernel_rfl) (by kernel_rfl)
theorem sW (os:Os) {H:Type} (enc:TypeId×Value→H):∃ places,DataW.whole enc Tryz.prog ((fw os).forCall (fun _ _=>0) ⟨#[],#[.agg #[.string .empty,.slice none 0 0,.slice none 0 0,.slice none 0 0,.slice none 0 0],.slice none 0 0,.int .i64 0],[]⟩).memory Tryz.f8.params.toList Rows.confOverSpec.vars false #[Value.agg #[Value.string .empty,.slice none 0 0,.slice none 0 0,.slice none 0 0,.slice none 0 0],Value.slice none 0 0,Value.int .i64 0].toList 8=some ([.agg [.lit (.string []),.nil,.nil,.nil,.nil],.nil,.lit (.int .i64 0)],[],places) :=
 ⟨[],by kernel_rfl⟩
theorem rE (os:Os) (started:os.Started) (H:Type) (enc:TypeId×Value→H) (F:Stop.Interp) :
 ReturnsInHanded {} Tryz.checked os 8 .any ((OpenSpec.ofChange Rows.confOverSpec).preRow enc Tryz.prog Tryz.f8 Rows.confOverRow.domain false Rows.confOverRow.laid) (((OpenSpec.ofChange Rows.confOverSpec).at F).post enc Tryz.prog Tryz.f8 false true false false):=by
 obtain ⟨places,hx⟩:=sW os enc
 refine returnsInHanded_of_row (C:=Tryz.checked) (s:=(OpenSpec.ofChange Rows.confOverSpec)) own started (by kernel_rfl) Tryz.func8
  (witness_row_at (enc:=enc) (C:=Tryz.checked) false (fw os) #[.agg #[.string .empty,.slice none 0 0,.slice none 0 0,.slice none 0 0,.slice none 0 0],.slice none 0 0,.int .i64 0] rfl (by kernel_rfl) (by kernel_rfl) (by kernel_rfl)
   (OpenSpec.preRow_of_cond 8 hx (by kernel_rfl) (fun k hk=>by cases hk) (by kernel_rfl) (xv os))) ?_
 intro W base args ds gs before hval0 hW _ hk0 hsz0 hL hSh _
 have hval:∀ (j:Nat) t v,Tryz.f8.params[j]?=some t→args[j]?=some v→Value.okWide Tryz.prog W .any base t v:=hval0
 have hW':=hW
 obtain ⟨p,q,hA0,hV,rfl,hfz,hnd⟩:=hW
 have hA:DataW.TrodAll enc Tryz.prog W 0 (fun _=>true) true Tryz.f8.params.toList args.toList ds p:=hA0
 have hsz:(DataW.weightsEach Tryz.prog (Tryz.f8.params.toList++Rows.confOverSpec.plain.varTypes Tryz.prog) (ds++gs)).all (·≤reachBytes)=true:=hsz0
 obtain ⟨rfl,rfl⟩:=trodVars_none hV
 rw [Tryz.params8] at hA hval hsz
 obtain ⟨args⟩:=args
 have hA1:DataW.TrodAll enc Tryz.prog W 0 (fun _=>true) true [27,35,3] args ds p:=hA
 clear hA
 obtain ⟨v0,w0,d0,e0,p0,q0,ea0,ed0,ep0,h0,hB0⟩:=trodAll_cons hA1
 subst ea0; subst ed0; subst ep0
 obtain ⟨v1,w1,d1,e1,p1,q1,ea1,ed1,ep1,h1,hB1⟩:=trodAll_cons hB0
 subst ea1; subst ed1; subst ep1
 obtain ⟨v2,w2,d2,e2,p2,q2,ea2,ed2,ep2,h2,hB2⟩:=trodAll_cons hB1
 subst ea2; subst ed2; subst ep2
 obtain ⟨ea,ed,ep⟩:=trodAll_nil hB2
 subst ea; subst ed; subst ep
 obtain ⟨x0,s0,b0⟩:=nI h0 (hval 0 27 v0 rfl rfl)
 obtain ⟨x1,s1,i1⟩:=om h1 (hval 1 35 v1 rfl rfl)
 obtain ⟨x2,s2,i2⟩:=Lh h2 (hval 2 3 v2 rfl rfl)
 have hsz':(d0.weights Tryz.prog 27++(d1.weights Tryz.prog 35++(d2.weights Tryz.prog 3++[]))).all (·≤reachBytes)=true:=by
  simpa [DataW.weightsEach] using hsz
 simp only [bt,aO,af] at hsz'
 obtain ⟨c0,c1,c2⟩:=hsz'
 have r0:=b0 c0
 refine ((Ge x0 x1 x2 r0 i1).law (W:=W) (CN hL hSh) (vs:=[v0,v1,v2]) (.cons s0 (.cons s1 (.cons s2 .nil)))).mono fun e W' ⟨he,hb⟩=>?_
 exact ⟨_,he,ql (tb:=4) laidOut (by kernel_rfl) (by kernel_rfl) Tryz.underlying4 rfl ⟨rfl,rfl,rfl⟩ (by rw [Tryz.params8]; intro t ht; simp at ht; rcases ht with rfl | rfl | rfl <;> exact ⟨by kernel_rfl,of_decide_eq_true (by kernel_rfl)⟩) hW' hb⟩
theorem yP:(Rows.confOverRow.inPlace==Tryz.pinned.checked.prog.inPlace 8)=true:=by kernel_rfl
theorem yx:(Rows.confOverRow.unfollowed==Tryz.pinned.checked.prog.unfollowed 8)=true:=by kernel_rfl
theorem yp:(Rows.confOverRow.recurses==Tryz.pinned.checked.prog.recurses 8)=true:=by kernel_rfl
theorem yu:(Rows.confOverRow.named==Tryz.pinned.checked.prog.varsNamed 8)=true:=by kernel_rfl
theorem qS:joinedFacts Tryz.pinned.checked.prog 8 Tryz.f8 (OpenSpec.ofChange Rows.confOverSpec).bare Rows.confOverRow=true:=by
 unfold joinedFacts
 rw [yP,yx,yp,yu]
 kernel_rfl
theorem uA:Rows.ConfOverSaid :=
 OpenClaim.holds_of_cond 8 Tryz.f8 rfl rfl rfl rfl rfl rfl rfl ⟨rfl,rfl,rfl,rfl,rfl⟩ rfl rfl rfl rfl rfl (by kernel_rfl) Tryz.func8 qS
  (of_decide_eq_true (by kernel_rfl)) (by unfold Func.isWrapper; first | (rw [if_pos (by decide +kernel)]; kernel_rfl) | (rw [if_neg (by decide +kernel)]; exact ⟨rfl,rfl⟩))
  (fun os started H enc _ F=>by rw [OpenClaim.pre_eq_preRow]; exact rE os started H enc F)
theorem sj (f:FuncId) (fn:Func) (hf:Tryz.pinned.checked.prog.funcNamed "quintain/quintainlaw10.ConfOver"=some f) (hfn:Tryz.pinned.checked.prog.funcs[f]?=some fn) :
 true=Tryz.pinned.checked.prog.looks []∧∀ (j:Nat) t,fn.params[j]?=some t→Tryz.pinned.checked.prog.wantsStandIn t=false:=by
 have e1:f=8:=(cB ((show Tryz.prog.funcNamed "quintain/quintainlaw10.ConfOver"=some 8 by kernel_rfl).symm.trans hf)).symm
 subst e1
 have e2:fn=Tryz.f8:=(cB (Tryz.func8.symm.trans hfn)).symm
 subst e2
 refine ⟨by kernel_rfl,fun j t ht=>?_⟩
 rw [Tryz.params8] at ht
 have hm:=Array.mem_of_getElem? ht
 simp at hm
 rcases hm with rfl | rfl | rfl
 all_goals first
  | exact (show Tryz.prog.wantsStandIn 35=false by kernel_rfl)
  | exact (show Tryz.prog.wantsStandIn 27=false by kernel_rfl)
  | exact (show Tryz.prog.wantsStandIn 3=false by kernel_rfl)
theorem confOver_holds:Rows.ConfOverCardSaid :=
 Claim7.holds_tied_plain_at .later [] _ _ _ _ uA (fun _ h=>by cases h) (by kernel_rfl) (fun _ h=>by cases h) confOver_row_tie rfl ⟨rfl,rfl⟩ (by kernel_rfl) rfl sj (by kernel_rfl)
#print axioms confOver_holds
end Go.Proofs.YtcopfgbbjdefbaaGreatDoor
namespace Go.Proofs.YtcopfgbbjdefbaaGreatDoor
open Go Go.Ev
set_option maxRecDepth 100000
abbrev zKs1:List PI:=[.code [1,1,0,1,0,0],.inLoop [1,1,0,1,0,0],.inBlock 0,.code [1,1,1]]
theorem BM (a b:List Str) (Γ:Ctx) (hl:a.length≤maxLen) (he:a.length=b.length):∀ (n k:Nat),a.length - k≤n→k≤a.length→a.take k=b.take k →
 J Tryz.prog 25 (aw Tryz.f25) Γ (Eq2 (.x (.b (a==b))) []) zKs1 ({ n:=26,fr:=[(0,.p (.lst .str a)),(1,.p (.lst .str b)),(4,.p (.bool false)),(5,.i ((k:Int)))],ck:=[],kn:=[4] }):=by
 intro n
 induction n with
 | zero=>?_
 | succ n ih=>?_
 all_goals
  intro k hn hk htk
  refine jg aV Tryz.func25 (.ite (decide ((k:Int)<(a.length:Int))) (.need (inRg k a.length) (.need (inRg k b.length) (.ite (!ETy.get .str a k==ETy.get .str b k) (.ret (.p (.bool false)) []) (.stop zKs1 { n:=26,fr:=[(0,.p (.lst .str a)),(1,.p (.lst .str b)),(4,.p (.bool false)),(5,.i (IntKind.wrap .i64 ((k:Int)+1)))],ck:=[] })))) (.ret (.p (.bool true)) [])) ?_
  refine ⟨fun hlt=>?_,fun hge=>?_⟩
  · have hk':k<a.length:=by have:=of_decide_eq_true hlt; omega
    have hk2:k<b.length:=by omega
    have hg:ETy.get .str a k=a[k]:=ETy.get_eq (t:=.str) (List.getElem?_eq_getElem hk')
    have hg2:ETy.get .str b k=b[k]:=ETy.get_eq (t:=.str) (List.getElem?_eq_getElem hk2)
    rw [hg,hg2]
    refine ⟨by omega,by omega,fun h=>⟨?_,rfl⟩,fun h=>?_⟩
    · have h':a[k]≠b[k]:=by simpa using h
      have:(a==b)=false:=by
       rw [beq_eq_false_iff_ne]
       intro e; subst e; exact h' rfl
      rw [this]
    · have h':a[k]=b[k]:=by simpa using h
      rw [aZ (aC hk' hl)]
      first
      | (exfalso; omega)
      | exact J.kn [4] (ih (k+1) (by omega) (by omega) (by rw [aL hk',aL hk2,htk,h']))
  · have hk':k=a.length:=by have:=of_decide_eq_false hge; omega
    rw [hk',List.take_length,he,List.take_length] at htk
    subst htk
    exact ⟨by simp,rfl⟩
theorem Cr (a b:List Str):ah Tryz.prog 25 [.l .str a,.l .str b] [] (.x (.b (a==b))) []:=by
 refine dg aV Tryz.func25 (.ite ((a.length:Int) != (b.length:Int)) (.ret (.p (.bool false)) []) (.stop zKs1 { n:=26,fr:=[(0,.p (.lst .str a)),(1,.p (.lst .str b)),(4,.p (.bool false)),(5,.i 0)],ck:=[],kn:=[4] })) fun Γ=>?_
 refine ⟨fun h=>⟨?_,rfl⟩,fun h=>?_⟩
 · have h':(a.length:Int)≠b.length:=by simpa using h
   have:(a==b)=false:=by
    rw [beq_eq_false_iff_ne]
    intro e; subst e; exact h' rfl
   rw [this]
 · have h':a.length=b.length:=by
    have:(a.length:Int)=b.length:=by simpa using h
    omega
   exact J.len 0 rfl fun hl=>BM a b Γ hl h' a.length 0 (by omega) (by omega) (by simp)
def oM:Ent:=(25,fun
 | [.c (.pd (.lst .str a)),.c (.pd (.lst .str b))],[]=>some (none,.x (.c (.pd (.bool (a==b)))),[])
 | _,_=>none)
theorem ux:EntOk Tryz.prog oM:=entOk fun vs ck=>by
 unfold oM; dsimp only; split
 · rename_i a b; exact entS fun hp=>Cr a b
 · exact entN
end Go.Proofs.YtcopfgbbjdefbaaGreatDoor
