/- Contracts: the document's Some, whole. Conditions: a valid chart, bytes. Contracts: the law ConfLegal. Conditions: sizes. Lists of ints and of bytes among the laws' arguments. Conditions: none. The law ConfLegal, whole, its card. Conditions: the library's tables as they are laid. Contracts: conf: Names; the document's Leaves, Names. Conditions: sizes. -/
import Derived.Test.YtcopfgbbjdefbaaGreatDoorCr
import Derived.Test.YtcopfgbbjdefbaaGreatDoorVk
import Derived.Test.YtcopfgbbjdefbaaGreatDoorLx
import Derived.Test.YtcopfgbbjdefbaaGreatDoorTa
import Derived.Test.YtcopfgbbjdefbaaGreatDoorKb
namespace Go.Proofs.YtcopfgbbjdefbaaGreatDoor
open Go Go.Ev
set_option maxRecDepth 100000
abbrev zJ17Ct:=J Tryz.prog 17 (aw Tryz.f17)
theorem rV (r:List Int) (a:List Bool):(gp a r).length=a.length:=(jZ r a 0).1
theorem ki (l:List Ev.Stat) (a:List Bool) (i:Nat):(fR l a i).length=a.length:=by unfold fR; split <;> simp
abbrev zCt1 (a:Chart):Chunk:=.cells [.pd (.str a.name),.pd (.lst .str a.events),.pd (.lst .var a.vars),.pd (.lst .stat a.states),.pd (.lst .tran a.trans)] 27
abbrev zCt2:List PI:=[.code [1,1,1,0,1,0,0],.inLoop [1,1,1,0,1,0,0],.inBlock 0,.code [1,1,1,1]]
theorem IW (c:Chart) (t:Tre c.states) (p:List Int) (hp:∀ b∈p,0≤b∧b≤255) (Γ:Ctx) (fin:List Bool):∀ (n k:Nat) (a:List Bool) (m:Int),c.states.length - k=n→k≤c.states.length→a.length=c.states.length→0≤m∧m≤k→fU c.states (chM c.states p) n k a m=fin →
 zJ17Ct Γ (Eq2 (.x (.c (.own 0))) [.own 3 .int (kD fin fin.length)]) zCt2 ({ n:=132,fr:=[(1,.p (.lst .byte p)),(2,.x (.c (.loc 0 0))),(4,.p (.v (Value.slice none 0 0))),(5,.x (.c (.own 1))),(6,.i m),(7,.i ((k:Int)))],ck:=[zCt1 c,.own 4 .bool a] }):=by
 have hfew:=t.shp.few
 have hm:c.states.length≤maxLen:=by unfold maxLen; omega
 have no:∀ {b:Bool},b=false→¬b=true:=fun h e=>by rw [h] at e; cases e
 intro n
 induction n with
 | zero=>?_
 | succ n ih=>?_
 all_goals
  intro k a m hn hk ha hm0 hf
  refine jg gy Tryz.func17 (let x7:List Nat:=[1,1,1,0,1,0,0,1,0,0,1,1,1,1,0,1,0,0]; let x1:List PI:=[.code x7,.inLoop x7,.inBlock 2,.code [1,1,1,0,1,0,0,1,0,0,1,1,1,1,1],.inBlock 1,.code [1,1,1,0,1,0,0,1,1],.inLoop [1,1,1,0,1,0,0],.inBlock 0,.code [1,1,1,1]]; let x5:=(Value.slice none 0 0); let x2:List (Nat×SV):=[(1,.p (.lst .byte p)),(2,.x (.c (.loc 0 0))),(4,.p (.v x5)),(5,.x (.c (.own 1))),(6,.i m),(7,.i k),(8,.x (.c (.own 2))),(9,.p (.v x5)),(10,.i 0)]; let x3:List (Nat×SV):=[(1,.p (.lst .byte p)),(2,.x (.c (.loc 0 0))),(4,.p (.v x5)),(5,.x (.c (.own 1))),(6,.i m),(7,.i (IntKind.wrap .i64 ((k:Int)+1)))]; let x4:List PI:=zCt2; let x6:=(bF c.states (k:Int) c.states.length); let x8:=(c.states.length≤1466015503701); .ite (decide ((k:Int)<(c.states.length:Int))) (.need (inRg k c.states.length) (.ite (Stat.depth (ETy.get .stat c.states k)==(0:Int)) (.need (inRg k a.length) (.need (k<a.length) (.need ((0:Int)≤(k:Int)∧(k:Int)<(↑((List.set a k true).length):Int)) (.need (k<(List.set a k true).length) (.ite (!ETy.get .bool (List.set a k true) k) (.stop x4 { n:=132,fr:=x3,ck:=[zCt1 c,.own 4 .bool (List.set a k true)] }) (.need x8 (.stop x1 { n:=132,fr:=x2,ck:=[zCt1 c,.own 4 .bool (List.set a k true),.own 3 .int x6] }))))))) (.need (inRg k a.length) (.need (k<a.length) (.ite (!ETy.get .bool a k) (.stop x4 { n:=132,fr:=x3,ck:=[zCt1 c,.own 4 .bool a] }) (.need x8 (.stop x1 { n:=132,fr:=x2,ck:=[zCt1 c,.own 4 .bool a,.own 3 .int x6] }))))))) (.stop [.code [1,1,1,1,1,0,1,0,0],.inLoop [1,1,1,1,1,0,1,0,0],.inBlock 6,.code [1,1,1,1,1,1]] { n:=132,fr:=[(4,.p (.v x5)),(5,.x (.c (.own 0))),(13,.p (.v x5)),(14,.i 0)],ck:=[.own 4 .bool a] })) ?_
  conv=>zeta
  refine ⟨fun hlt=>?_,fun hge=>?_⟩
 · have:=of_decide_eq_true hlt; omega
 · rw [fU] at hf
   subst hf
   refine J.nilOwn 13 3 .int rfl (by kernel_rfl) ?_
   exact Hu c p a (by omega) Γ a.length 0 (by omega) (by omega)
 · have hk':k<c.states.length:=by omega
   have hn2:c.states.length - (k+1)=n:=by omega
   have hwk:IntKind.wrap .i64 ((k:Int)+1)=((k+1:Nat):Int):=aZ (aC hk' hm)
   have hwm:IntKind.wrap .i64 (m+1)=m+1:=cv (by omega) (by omega)
   have step:∀ b:List Bool,fR c.states a k=b →
    ((!ETy.get .bool b k)=true→zJ17Ct Γ (Eq2 (.x (.c (.own 0))) [.own 3 .int (kD fin fin.length)]) zCt2 ({ n:=132,fr:=[(1,.p (.lst .byte p)),(2,.x (.c (.loc 0 0))),(4,.p (.v (Value.slice none 0 0))),(5,.x (.c (.own 1))),(6,.i m),(7,.i ((IntKind.wrap .i64 ((k:Int)+1))))],ck:=[zCt1 c,.own 4 .bool b] })) ∧
    ((!ETy.get .bool b k)=false→zJ17Ct Γ (Eq2 (.x (.c (.own 0))) [.own 3 .int (kD fin fin.length)]) [.code [1,1,1,0,1,0,0,1,0,0,1,1,1,1,0,1,0,0],.inLoop [1,1,1,0,1,0,0,1,0,0,1,1,1,1,0,1,0,0],.inBlock 2,.code [1,1,1,0,1,0,0,1,0,0,1,1,1,1,1],.inBlock 1,.code [1,1,1,0,1,0,0,1,1],.inLoop [1,1,1,0,1,0,0],.inBlock 0,.code [1,1,1,1]] ({ n:=132,fr:=[(1,.p (.lst .byte p)),(2,.x (.c (.loc 0 0))),(4,.p (.v (Value.slice none 0 0))),(5,.x (.c (.own 1))),(6,.i m),(7,.i k),(8,.x (.c (.own 2))),(9,.p (.v (Value.slice none 0 0))),(10,.i (0))],ck:=[zCt1 c,.own 4 .bool b,.own 3 .int (bF c.states (k:Int) c.states.length)] })):=by
    intro b hb
    have hbl:b.length=c.states.length:=by rw [← hb,ki]; exact ha
    rw [fU,hb] at hf
    refine ⟨fun h=>?_,fun h=>Mi c t p hp b m k hbl hk' hm0.1 Γ _ (fun h3=>?_) (fun h2=>?_) (fun h3 h2=>?_) _ rfl⟩
    · rw [if_pos (by exact h)] at hf
      rw [hwk]; exact ih (k+1) b m hn2 (by omega) hbl (by omega) hf
    all_goals rw [if_neg (by exact no h)] at hf
    · rw [if_pos h3] at hf
      rw [hwk]; exact ih (k+1) _ m hn2 (by omega) (by rw [rV]; exact hbl) (by omega) hf
    · rw [if_neg (by rw [eq_of_beq h2]; decide),if_pos h2] at hf
      rw [hwk]; exact ih (k+1) _ _ hn2 (by omega) (by rw [bx]; exact hbl) (by rw [hwm]; omega) hf
    · rw [if_neg (no h3),if_neg (no h2)] at hf
      rw [hwk]; exact ih (k+1) b m hn2 (by omega) hbl (by omega) hf
   refine ⟨⟨by omega,by omega⟩,fun hd=>?_,fun hd=>?_⟩
   · have hs:=step (a.set k true) (by unfold fR; rw [if_pos (by exact hd)])
     refine ⟨⟨by omega,by omega⟩,by omega,⟨by omega,by rw [bx]; omega⟩,by rw [bx]; omega,fun hb=>hs.1 hb,fun hb=>⟨by omega,hs.2 hb⟩⟩
   · have hs:=step a (by unfold fR; rw [if_neg (by exact no hd)])
     exact ⟨⟨by omega,by omega⟩,by omega,fun hb=>hs.1 hb,fun hb=>⟨by omega,hs.2 hb⟩⟩
 · have:=of_decide_eq_false hge; omega
theorem jP (l:List Ev.Stat) (ch:Nat→Int→Int):∀ (f i:Nat) (a:List Bool) (n:Int),(fU l ch f i a n).length=a.length
 | 0,_,_,_=>rfl
 | f + 1,i,a,n=>by
   rw [fU]
   split
   · rw [jP l ch f,ki]
   · split
     · rw [jP l ch f,rV,ki]
     · split
       · rw [jP l ch f,bx,ki]
       · rw [jP l ch f,ki]
theorem tn (c:Chart) (t:Tre c.states) (p:List Int) (hp:∀ b∈p,0≤b∧b≤255):ah Tryz.prog 17 [.e .chart c,.l .byte p] [] (.x (.c (.own 0))) [.own 3 .int (dx c.states (chM c.states p))]:=by
 have hfew:=t.shp.few
 refine dg gy Tryz.func17 (.stop [.ops [1,0] 3,.code [1,1]] { n:=132,fr:=[(1,.p (.lst .byte p)),(2,.x (.c (.loc 0 0))),(4,.p (.v (Value.slice none 0 0))),(17,.i c.states.length)],ck:=[zCt1 c] }) fun Γ=>?_
 refine J.make (d:=18) (e:=4) (by1:=1) .bool false c.states.length (by kernel_rfl) rfl rfl (fun H=>.cons (.bool false) .nil) rfl rfl ⟨by omega,by unfold maxLen; omega⟩ ?_
 have rest:∀ a:List Bool,a=List.replicate c.states.length false→zJ17Ct Γ (Eq2 (.x (.c (.own 0))) [.own 3 .int (dx c.states (chM c.states p))]) [.ops [1,0] 4,.code [1,1]] ({ n:=132,fr:=[(1,.p (.lst .byte p)),(2,.x (.c (.loc 0 0))),(4,.p (.v (Value.slice none 0 0))),(17,.i c.states.length),(18,.x (.c (.own 1)))],ck:=[zCt1 c,.own 4 .bool a] }):=fun a ha=>by
  refine jg gy Tryz.func17 (.stop zCt2 { n:=132,fr:=[(1,.p (.lst .byte p)),(2,.x (.c (.loc 0 0))),(4,.p (.v (Value.slice none 0 0))),(5,.x (.c (.own 1))),(6,.i 0),(7,.i 0)],ck:=[zCt1 c,.own 4 .bool a] }) ?_
  subst ha
  have h:=IW c t p hp Γ _ c.states.length 0 (List.replicate c.states.length false) 0 (by omega) (by omega) (by rw [di]) (by omega) rfl
  rw [jP,di] at h
  exact h
 exact rest _ rfl
def vF:Ent:=(17,fun
 | [.agg [.pd (.str a),.pd (.lst .str b),.pd (.lst .var c),.pd (.lst .stat d),.pd (.lst .tran e)],.c (.pd (.lst .byte p))],[]=>some (some (Tre d∧∀ b∈p,0≤b∧b≤255),.x (.c (.own 0)),[Chunk.own 3 ETy.int (dx d (chM d p))])
 | _,_=>none)
theorem IP:EntOk Tryz.prog vF:=entOk fun vs ck=>by
 unfold vF; dsimp only; split
 · rename_i a b c d e p; exact entS fun hp=>tn ⟨a,b,c,d,e⟩ hp.1 p hp.2
 · exact entN
def Fi:Cfg:=⟨aX,[qi,CO,jh,ir,rv,kb,o7,vF]⟩
theorem DZ:ag Tryz.prog Fi.tab:=(ag.cons mn (ag.cons AR (ag.cons lS (ag.cons kJ (ag.cons FA (ag.cons mS (ag.cons Cf (ag.cons IP ag.nil))))))))
theorem Du (c:Chart) (s p:List Int) (h:kp c) (hs:room s.length 8) (hp:∀ b∈p,0≤b∧b≤255):ah Tryz.prog 4 [.e .chart c,.l .int s,.l .byte p] [] (.x (.b true)) []:=by
 have hz:=sO h
 have hb:=xc h
 refine dg DZ Tryz.func4 (let x1:=(c.vars.length≤2199023255552∧c.states.length≤2199023255552); .ite false (.ret (.p (.bool false)) []) (.need (∀ (s:ETy.den .stat),s∈c.states→s.entry.length≤4398046511104∧s.leave.length≤4398046511104) (.ite (!bj c==(0:Int)) (.need (room s.length 8) (.need x1 (.ret (.p (.bool !(bj c==(0:Int)&&bb c.states s))) []))) (.need (room s.length 8) (.need x1 (.need (Tre c.states) (.need (((bj c==(0:Int)&&bb c.states s)==bb c.states s)=true) (.need (Tre c.states∧∀ (b:ETy.den .byte),b∈p→(0:ETy.den .byte)≤b∧b≤(255:ETy.den .byte)) (.need x1 (.ret (.p (.bool (true&&(bj c==(0:Int)&&bb c.states (dx c.states (chM c.states p)))))) [])))))))))) fun Γ=>?_
 conv=>zeta
 refine ⟨fun h0=>absurd h0 (by decide),fun _=>⟨hb,fun h1=>⟨hs,⟨hz.1,by omega⟩,?_,rfl⟩,fun h1=>?_⟩⟩
 · have h1':(!bj c==0)=true:=h1
   have h2:(bj c==0)=false:=by simpa using h1'
   exact congrArg (fun b=>SV.x (.c (.pd (.bool b)))) (show (!(bj c==0&&bb c.states s))=true from by rw [h2]; rfl)
 · have h1':(!bj c==0)=false:=h1
   have h2:(bj c==0)=true:=by simpa using h1'
   have hv:=(c8 c).1 (eq_of_beq h2)
   have t:=hv.tre
   have hg:=(jF t.shp _).2 (jY t (j7 t hp))
   refine ⟨hs,⟨hz.1,by omega⟩,t,?_,⟨t,hp⟩,⟨hz.1,by omega⟩,?_,rfl⟩
   · show ((bj c==0&&bb c.states s)==bb c.states s)=true
     rw [h2]; simp
   · exact congrArg (fun b=>SV.x (.c (.pd (.bool b)))) (show (true&&(bj c==0&&bb c.states (dx c.states (chM c.states p))))=true from by rw [h2,hg]; rfl)
end Go.Proofs.YtcopfgbbjdefbaaGreatDoor
namespace Go.Proofs.YtcopfgbbjdefbaaGreatDoor
open Go Go.Ev Go.RowKit Go.ChangeShapes Go.WideShapes Go.ChangeAt
set_option maxRecDepth 100000
section
variable {Hh:Type} {enc:TypeId×Value→Hh} {W:World} {base:Nat} {spare:Nat→Bool} {held:Bool}
theorem LP (n:Nat) (cs:List Value) (y:DataW Hh×List MemPlace) (h:DataW.trod enc Tryz.prog W base spare held n 3 cs=some y):∃ r:Int,All2 (PR (HW W)) (ETy.int.enc r) cs∧True:=by
 obtain ⟨k,h1,_⟩:=DataW.trod_int Tryz.underlying3 h
 exact ⟨k,by rw [h1]; exact .cons (.int _ k) .nil,trivial⟩
theorem KJ (n:Nat) (cs:List Value) (y:DataW Hh×List MemPlace) (h:DataW.trod enc Tryz.prog W base spare held n 5 cs=some y):∃ r:Int,All2 (PR (HW W)) (ETy.byte.enc r) cs∧(0≤r∧r≤255):=by
 obtain ⟨k,h1,_,h2⟩:=DataW.trod_int Tryz.underlying5 h
 simp only [Lit.wf,af,decide_eq_true_eq] at h2
 have e1:IntKind.u8.min=0:=by decide
 have e2:IntKind.u8.max=255:=by decide
 rw [e1,e2] at h2
 exact ⟨k,by rw [h1]; exact .cons (.int _ k) .nil,h2⟩
theorem wL {v:Value} {d:DataW Hh} {ps:List MemPlace} {b0:Nat} (h:DataW.Trod enc Tryz.prog W base spare held 29 v d ps) (hv:Value.okWide Tryz.prog W .any b0 29 v) :
 ∃ l:List Int,SX.R (VW W) (.c (.pd (.lst .int l))) v∧((d.weights Tryz.prog 29).all (·≤reachBytes)=true→room l.length 8):=by
 have hv':Cell.okWide Tryz.prog W .any b0 29 v:=by simpa only [Value.okWide,Tryz.underlying29] using hv
 obtain ⟨fuel,hf⟩:=h
 have hc:v.cells.toList=[v]:=by
  have hv2:=hv'
  simp only [Cell.okWide,Tryz.underlying29,Cell.ok] at hv2
  cases v <;> first | rfl | exact hv2.elim
 rw [hc] at hf
 obtain ⟨l,h1,_,h3⟩:=oF .int (Q:=fun _=>True) Tryz.underlying29 (by kernel_rfl) LP hf ⟨_,_,hv'⟩
 have hb:Tryz.prog.bytesOf 3=8:=by kernel_rfl
 rw [hb] at h3
 refine ⟨l,h1,fun hw=>?_⟩
 have h4:=h3 hw
 unfold reachBytes at h4
 exact ⟨by omega,by unfold maxLen; omega⟩
theorem om {v:Value} {d:DataW Hh} {ps:List MemPlace} {b0:Nat} (h:DataW.Trod enc Tryz.prog W base spare held 35 v d ps) (hv:Value.okWide Tryz.prog W .any b0 35 v) :
 ∃ l:List Int,SX.R (VW W) (.c (.pd (.lst .byte l))) v∧∀ b∈l,0≤b∧b≤255:=by
 have hv':Cell.okWide Tryz.prog W .any b0 35 v:=by simpa only [Value.okWide,Tryz.underlying35] using hv
 obtain ⟨fuel,hf⟩:=h
 have hc:v.cells.toList=[v]:=by
  have hv2:=hv'
  simp only [Cell.okWide,Tryz.underlying35,Cell.ok] at hv2
  cases v <;> first | rfl | exact hv2.elim
 rw [hc] at hf
 obtain ⟨l,h1,h2,_⟩:=oF .byte (Q:=fun b:Int=>0≤b∧b≤255) Tryz.underlying35 (by kernel_rfl) KJ hf ⟨_,_,hv'⟩
 exact ⟨l,h1,h2⟩
end
end Go.Proofs.YtcopfgbbjdefbaaGreatDoor
namespace Go.Proofs.YtcopfgbbjdefbaaGreatDoor
open Go Go.Ev Go.RowKit Go.ChangeShapes Go.WideShapes Go.ChangeAt
set_option maxRecDepth 100000
theorem uF (os:Os):laidMet Tryz.prog Rows.confLegalRow.laid ((fw os).forCall (fun _ _=>0) ⟨#[],#[.agg #[.string .empty,.slice none 0 0,.slice none 0 0,.slice none 0 0,.slice none 0 0],.slice none 0 0,.slice none 0 0],[]⟩).memory :=
 laidMet_of_run' 8 (by kernel_rfl) (by kernel_rfl)
theorem qM (os:Os) {H:Type} (enc:TypeId×Value→H):∃ places,DataW.whole enc Tryz.prog ((fw os).forCall (fun _ _=>0) ⟨#[],#[.agg #[.string .empty,.slice none 0 0,.slice none 0 0,.slice none 0 0,.slice none 0 0],.slice none 0 0,.slice none 0 0],[]⟩).memory Tryz.f4.params.toList Rows.confLegalSpec.vars false #[Value.agg #[Value.string .empty,.slice none 0 0,.slice none 0 0,.slice none 0 0,.slice none 0 0],Value.slice none 0 0,Value.slice none 0 0].toList 8=some ([.agg [.lit (.string []),.nil,.nil,.nil,.nil],.nil,.nil],[],places) :=
 ⟨[],by kernel_rfl⟩
theorem qt (os:Os) (started:os.Started) (H:Type) (enc:TypeId×Value→H) (F:Stop.Interp) :
 ReturnsInHanded {} Tryz.checked os 4 .any ((OpenSpec.ofChange Rows.confLegalSpec).preRow enc Tryz.prog Tryz.f4 Rows.confLegalRow.domain false Rows.confLegalRow.laid) (((OpenSpec.ofChange Rows.confLegalSpec).at F).post enc Tryz.prog Tryz.f4 false true false false):=by
 obtain ⟨places,hx⟩:=qM os enc
 refine returnsInHanded_of_row (C:=Tryz.checked) (s:=(OpenSpec.ofChange Rows.confLegalSpec)) own started (by kernel_rfl) Tryz.func4
  (witness_row_at (enc:=enc) (C:=Tryz.checked) false (fw os) #[.agg #[.string .empty,.slice none 0 0,.slice none 0 0,.slice none 0 0,.slice none 0 0],.slice none 0 0,.slice none 0 0] rfl (by kernel_rfl) (by kernel_rfl) (by kernel_rfl)
   (OpenSpec.preRow_of_cond 8 hx (by kernel_rfl) (fun k hk=>by cases hk) (by kernel_rfl) (uF os))) ?_
 intro W base args ds gs before hval0 hW _ hk0 hsz0 hL hSh _
 have hval:∀ (j:Nat) t v,Tryz.f4.params[j]?=some t→args[j]?=some v→Value.okWide Tryz.prog W .any base t v:=hval0
 have hW':=hW
 obtain ⟨p,q,hA0,hV,rfl,hfz,hnd⟩:=hW
 have hA:DataW.TrodAll enc Tryz.prog W 0 (fun _=>true) true Tryz.f4.params.toList args.toList ds p:=hA0
 have hsz:(DataW.weightsEach Tryz.prog (Tryz.f4.params.toList++Rows.confLegalSpec.plain.varTypes Tryz.prog) (ds++gs)).all (·≤reachBytes)=true:=hsz0
 obtain ⟨rfl,rfl⟩:=trodVars_none hV
 rw [Tryz.params4] at hA hval hsz
 obtain ⟨args⟩:=args
 have hA1:DataW.TrodAll enc Tryz.prog W 0 (fun _=>true) true [27,29,35] args ds p:=hA
 clear hA
 obtain ⟨v0,w0,d0,e0,p0,q0,ea0,ed0,ep0,h0,hB0⟩:=trodAll_cons hA1
 subst ea0; subst ed0; subst ep0
 obtain ⟨v1,w1,d1,e1,p1,q1,ea1,ed1,ep1,h1,hB1⟩:=trodAll_cons hB0
 subst ea1; subst ed1; subst ep1
 obtain ⟨v2,w2,d2,e2,p2,q2,ea2,ed2,ep2,h2,hB2⟩:=trodAll_cons hB1
 subst ea2; subst ed2; subst ep2
 obtain ⟨ea,ed,ep⟩:=trodAll_nil hB2
 subst ea; subst ed; subst ep
 obtain ⟨x0,s0,b0⟩:=nI h0 (hval 0 27 v0 rfl rfl)
 obtain ⟨x1,s1,b1⟩:=wL h1 (hval 1 29 v1 rfl rfl)
 obtain ⟨x2,s2,i2⟩:=om h2 (hval 2 35 v2 rfl rfl)
 have hsz':(d0.weights Tryz.prog 27++(d1.weights Tryz.prog 29++(d2.weights Tryz.prog 35++[]))).all (·≤reachBytes)=true:=by
  simpa [DataW.weightsEach] using hsz
 simp only [bt,aO,af] at hsz'
 obtain ⟨c0,c1,c2⟩:=hsz'
 have r0:=b0 c0
 have r1:=b1 c1
 refine ((Du x0 x1 x2 r0 r1 i2).law (W:=W) (CN hL hSh) (vs:=[v0,v1,v2]) (.cons s0 (.cons s1 (.cons s2 .nil)))).mono fun e W' ⟨he,hb⟩=>?_
 exact ⟨_,he,ql (tb:=4) laidOut (by kernel_rfl) (by kernel_rfl) Tryz.underlying4 rfl ⟨rfl,rfl,rfl⟩ (by rw [Tryz.params4]; intro t ht; simp at ht; rcases ht with rfl | rfl | rfl <;> exact ⟨by kernel_rfl,of_decide_eq_true (by kernel_rfl)⟩) hW' hb⟩
theorem xl:(Rows.confLegalRow.inPlace==Tryz.pinned.checked.prog.inPlace 4)=true:=by kernel_rfl
theorem wQ:(Rows.confLegalRow.unfollowed==Tryz.pinned.checked.prog.unfollowed 4)=true:=by kernel_rfl
theorem wa:(Rows.confLegalRow.recurses==Tryz.pinned.checked.prog.recurses 4)=true:=by kernel_rfl
theorem vP:(Rows.confLegalRow.named==Tryz.pinned.checked.prog.varsNamed 4)=true:=by kernel_rfl
theorem qh:joinedFacts Tryz.pinned.checked.prog 4 Tryz.f4 (OpenSpec.ofChange Rows.confLegalSpec).bare Rows.confLegalRow=true:=by
 unfold joinedFacts
 rw [xl,wQ,wa,vP]
 kernel_rfl
theorem su:Rows.ConfLegalSaid :=
 OpenClaim.holds_of_cond 4 Tryz.f4 rfl rfl rfl rfl rfl rfl rfl ⟨rfl,rfl,rfl,rfl,rfl⟩ rfl rfl rfl rfl rfl (by kernel_rfl) Tryz.func4 qh
  (of_decide_eq_true (by kernel_rfl)) (by unfold Func.isWrapper; first | (rw [if_pos (by decide +kernel)]; kernel_rfl) | (rw [if_neg (by decide +kernel)]; exact ⟨rfl,rfl⟩))
  (fun os started H enc _ F=>by rw [OpenClaim.pre_eq_preRow]; exact qt os started H enc F)
theorem qG (f:FuncId) (fn:Func) (hf:Tryz.pinned.checked.prog.funcNamed "quintain/quintainlaw10.ConfLegal"=some f) (hfn:Tryz.pinned.checked.prog.funcs[f]?=some fn) :
 true=Tryz.pinned.checked.prog.looks []∧∀ (j:Nat) t,fn.params[j]?=some t→Tryz.pinned.checked.prog.wantsStandIn t=false:=by
 have e1:f=4:=(cB ((show Tryz.prog.funcNamed "quintain/quintainlaw10.ConfLegal"=some 4 by kernel_rfl).symm.trans hf)).symm
 subst e1
 have e2:fn=Tryz.f4:=(cB (Tryz.func4.symm.trans hfn)).symm
 subst e2
 refine ⟨by kernel_rfl,fun j t ht=>?_⟩
 rw [Tryz.params4] at ht
 have hm:=Array.mem_of_getElem? ht
 simp at hm
 rcases hm with rfl | rfl | rfl
 all_goals first
  | exact (show Tryz.prog.wantsStandIn 35=false by kernel_rfl)
  | exact (show Tryz.prog.wantsStandIn 27=false by kernel_rfl)
  | exact (show Tryz.prog.wantsStandIn 29=false by kernel_rfl)
theorem confLegal_holds:Rows.ConfLegalCardSaid :=
 Claim7.holds_tied_plain_at .later [] _ _ _ _ su (fun _ h=>by cases h) (by kernel_rfl) (fun _ h=>by cases h) confLegal_row_tie rfl ⟨rfl,rfl⟩ (by kernel_rfl) rfl qG (by kernel_rfl)
#print axioms confLegal_holds
end Go.Proofs.YtcopfgbbjdefbaaGreatDoor
namespace Go.Proofs.YtcopfgbbjdefbaaGreatDoor
open Go Go.Ev
set_option maxRecDepth 100000
def n3:Cfg:=⟨aX,[]⟩
theorem k0:ag Tryz.prog n3.tab:=ag.nil
variable (c:Chart) (l:List Ev.Stat) (s a:List Int) (k:Nat)
def dz:List Str:=s.map fun y=>(ETy.get .stat l y.toNat).name
theorem pW (hk:k<s.length):dz l (s.take (k+1))=dz l (s.take k)++[(ETy.get .stat l (ETy.get .int s k).toNat).name]:=by
 unfold dz
 rw [ETy.get_eq (t:=.int) (List.getElem?_eq_getElem hk),aL hk,bP]; rfl
theorem xC (hk:k<s.length):cf l (s.take (k+1))=cf l (s.take k)++(if ju l (ETy.get .int s k)=true then [ETy.get .int s k] else []):=by
 unfold cf
 rw [ETy.get_eq (t:=.int) (List.getElem?_eq_getElem hk),aL hk,b3]
 cases h:ju l s[k] <;> simp [h]
abbrev zCv1 (a:Chart):Chunk:=.cells [.pd (.str a.name),.pd (.lst .str a.events),.pd (.lst .var a.vars),.pd (.lst .stat a.states),.pd (.lst .tran a.trans)] 27
abbrev zCv3:List PI:=[.code [1,1,1,0,1,0,0],.inLoop [1,1,1,0,1,0,0],.inBlock 0,.code [1,1,1,1]]
theorem HS (hl:s.length≤1000) (hs:∀ y∈s,0≤y∧y<(c.states.length:Int)) (Γ:Ctx):∀ (n k:Nat),s.length - k≤n→k≤s.length →
 J Tryz.prog 23 (aw Tryz.f23) Γ (Eq2 (.x (.c (.own 0))) [.own 9 .str (dz c.states s)]) zCv3 ({ n:=29,fr:=[(2,.x (.c (.loc 0 0))),(4,.p (.v (Value.slice none 0 0))),(5,.x (.c (.own 1))),(12,.p (.lst .int s)),(13,.i s.length),(14,.i ((k:Int)))],ck:=[zCv1 c,.own 9 .str (dz c.states (s.take k))] }):=by
 have hm:s.length≤maxLen:=by unfold maxLen; omega
 intro n
 induction n with
 | zero=>?_
 | succ n ih=>?_
 all_goals
  intro k hn hk
  have hol:(dz c.states (s.take k)).length≤k:=by unfold dz; rw [aN,aY]; omega
  have htk:=pW c.states s k
  generalize hout:dz c.states (s.take k)=out at hol htk
  refine jg iz Tryz.func23 (.ite (decide ((k:Int)<(s.length:Int))) (.need (inRg k s.length) (.need ((0:Int)≤ETy.get .int s k∧ETy.get .int s k<(c.states.length:Int)) (.need (room ((out++[Stat.name (ETy.get .stat c.states ((ETy.get .int s k).toNat))]).length) 16) (.stop zCv3 { n:=29,fr:=[(2,.x (.c (.loc 0 0))),(4,.p (.v (Value.slice none 0 0))),(5,.x (.c (.own 1))),(12,.p (.lst .int s)),(13,.i s.length),(14,.i (IntKind.wrap .i64 ((k:Int)+1)))],ck:=[zCv1 c,.own 9 .str (out++[Stat.name (ETy.get .stat c.states ((ETy.get .int s k).toNat))])] })))) (.ret (.x (.c (.own 0))) [.own 9 .str out])) ?_
  refine ⟨fun hlt=>?_,fun hge=>?_⟩
  · have hk':k<s.length:=by have:=of_decide_eq_true hlt; omega
    have ht:=htk hk'
    have hy:=hs (ETy.get .int s k) (by rw [ETy.get_eq (t:=.int) (List.getElem?_eq_getElem hk')]; exact bf hk')
    refine ⟨⟨by omega,by omega⟩,hy,⟨by rw [aq]; show (_+1) * 16≤_; omega,by rw [aq]; show _+1≤_; unfold maxLen; omega⟩,?_⟩
    rw [aZ (aC hk' hm),← ht]
    first
    | (exfalso; omega)
    | exact ih (k+1) (by omega) (by omega)
  · have hke:k=s.length:=by have:=of_decide_eq_false hge; omega
    subst hke
    rw [aS (ar _)] at hout
    rw [← hout]; exact ⟨rfl,rfl⟩
abbrev zCv2:List PI:=[.code [1,1,0,1,0,0],.inLoop [1,1,0,1,0,0],.inBlock 0,.code [1,1,1]]
abbrev zCv6 (b:Nat):List (Nat×SV):=[(1,.p (.lst .int a)),(2,.x (.c (.loc 0 0))),(4,.p (.v (Value.slice none 0 0))),(5,.x (.c (.own 1))),(6,.i ((b:Int)))]
theorem Iv (hl:s.length≤1000) (hs:∀ y∈s,0≤y∧y<(c.states.length:Int)) (Γ:Ctx):∀ (n k:Nat),s.length - k≤n→k≤s.length →
 J Tryz.prog 26 (aw Tryz.f26) Γ (Eq2 (.x (.c (.own 0))) [.own 9 .str (dz c.states s)]) zCv2 ({ n:=26,fr:=(zCv6 s k),ck:=[zCv1 c,.own 9 .str (dz c.states (s.take k))] }):=by
 have hm:s.length≤maxLen:=by unfold maxLen; omega
 intro n
 induction n with
 | zero=>?_
 | succ n ih=>?_
 all_goals
  intro k hn hk
  have hol:(dz c.states (s.take k)).length≤k:=by unfold dz; rw [aN,aY]; omega
  have htk:=pW c.states s k
  generalize hout:dz c.states (s.take k)=out at hol htk
  refine jg k0 Tryz.func26 (.ite (decide ((k:Int)<(s.length:Int))) (.need (inRg k s.length) (.need ((0:Int)≤ETy.get .int s k∧ETy.get .int s k<(c.states.length:Int)) (.need (room ((out++[Stat.name (ETy.get .stat c.states ((ETy.get .int s k).toNat))]).length) 16) (.stop zCv2 { n:=26,fr:=[(5,.x (.c (.own 1))),(1,.p (.lst .int s)),(2,.x (.c (.loc 0 0))),(4,.p (.v (Value.slice none 0 0))),(6,.i (IntKind.wrap .i64 ((k:Int)+1)))],ck:=[zCv1 c,.own 9 .str (out++[Stat.name (ETy.get .stat c.states ((ETy.get .int s k).toNat))])] })))) (.ret (.x (.c (.own 0))) [.own 9 .str out])) ?_
  refine ⟨fun hlt=>?_,fun hge=>?_⟩
  · have hk':k<s.length:=by have:=of_decide_eq_true hlt; omega
    have ht:=htk hk'
    have hy:=hs (ETy.get .int s k) (by rw [ETy.get_eq (t:=.int) (List.getElem?_eq_getElem hk')]; exact bf hk')
    refine ⟨⟨by omega,by omega⟩,hy,⟨by rw [aq]; show (_+1) * 16≤_; omega,by rw [aq]; show _+1≤_; unfold maxLen; omega⟩,?_⟩
    rw [aZ (aC hk' hm),← ht]
    first
    | (exfalso; omega)
    | exact J.frame (fun p hp=>by simp only [aH,List.not_mem_nil,or_false] at hp ⊢; rcases hp with h | h | h | h | h <;> simp [h]) (ih (k+1) (by omega) (by omega))
  · have hke:k=s.length:=by have:=of_decide_eq_false hge; omega
    subst hke
    rw [aS (ar _)] at hout
    rw [← hout]; exact ⟨rfl,rfl⟩
theorem II (hl:s.length≤1000) (hs:∀ y∈s,0≤y∧y<(c.states.length:Int)) (Γ:Ctx):∀ (n k:Nat),s.length - k≤n→k≤s.length →
 J Tryz.prog 24 (aw Tryz.f24) Γ (Eq2 (.x (.c (.own 0))) [.own 3 .int (cf c.states s)]) zCv2 ({ n:=43,fr:=(zCv6 s k),ck:=[zCv1 c,.own 3 .int (cf c.states (s.take k))] }):=by
 have hm:s.length≤maxLen:=by unfold maxLen; omega
 intro n
 induction n with
 | zero=>?_
 | succ n ih=>?_
 all_goals
  intro k hn hk
  have hol:(cf c.states (s.take k)).length≤k:=av (bn _ _) (by rw [aY]; omega)
  have htk:=xC c.states s k
  generalize hout:cf c.states (s.take k)=out at hol htk
  refine jg k0 Tryz.func24 (let x1:=(ETy.get .stat c.states ((ETy.get .int s k).toNat)); let x2:List (Nat×SV):=[(1,.p (.lst .int s)),(2,.x (.c (.loc 0 0))),(4,.p (.v (Value.slice none 0 0))),(5,.x (.c (.own 1))),(6,.i (IntKind.wrap .i64 ((k:Int)+1)))]; let x3:List PI:=zCv2; let x4:=(((10,23,false,cE false (Stat.kind x1==(1:Int)) none).2).2); .ite (decide ((k:Int)<(s.length:Int))) (.need (inRg k s.length) (.need ((0:Int)≤ETy.get .int s k∧ETy.get .int s k<(c.states.length:Int)) (.need (x4.2→(0:Int)≤(k:Int)∧(k:Int)<(s.length:Int)) (.need (x4.2→(0:Int)≤ETy.get .int s k∧ETy.get .int s k<(c.states.length:Int)) (.ite (Stat.kind x1==(1:Int)||Stat.kind x1==(4:Int)) (.need (inRg k s.length) (.need (room ((out++[ETy.get .int s k]).length) 8) (.stop x3 { n:=43,fr:=x2,ck:=[zCv1 c,.own 3 .int (out++[ETy.get .int s k])] }))) (.stop x3 { n:=43,fr:=x2,ck:=[zCv1 c,.own 3 .int out] })))))) (.ret (.x (.c (.own 0))) [.own 3 .int out])) ?_
  conv=>zeta
  refine ⟨fun hlt=>?_,fun hge=>?_⟩
  · have hk':k<s.length:=by have:=of_decide_eq_true hlt; omega
    have ht:=htk hk'
    have hy:=hs (ETy.get .int s k) (by rw [ETy.get_eq (t:=.int) (List.getElem?_eq_getElem hk')]; exact bf hk')
    refine ⟨⟨by omega,by omega⟩,hy,fun _=>⟨by omega,by omega⟩,fun _=>hy,fun hb=>?_,fun hb=>?_⟩
    · rw [if_pos (by exact hb)] at ht
      refine ⟨⟨by omega,by omega⟩,⟨by rw [aq]; show (_+1) * 8≤_; omega,by rw [aq]; show _+1≤_; unfold maxLen; omega⟩,?_⟩
      rw [aZ (aC hk' hm),← ht]
      first
      | (exfalso; omega)
      | exact ih (k+1) (by omega) (by omega)
    · have hb':ju c.states (ETy.get .int s k)=false:=hb
      rw [if_neg (by rw [hb']; decide),aO] at ht
      rw [aZ (aC hk' hm),← ht]
      first
      | (exfalso; omega)
      | exact ih (k+1) (by omega) (by omega)
  · have hke:k=s.length:=by have:=of_decide_eq_false hge; omega
    subst hke
    rw [aS (ar _)] at hout
    rw [← hout]; exact ⟨rfl,rfl⟩
abbrev zCv4 (b:Chart):ST:={ n:=29,fr:=[(2,.x (.c (.loc 0 0))),(4,.p (.v (Value.slice none 0 0))),(5,.p (.v (Value.slice none 0 0))),(12,.p (.lst .int a)),(13,.i a.length),(14,.i 0)],ck:=[zCv1 b] }
theorem yG (h:Valid c∧bb c.states s=true):ah Tryz.prog 23 [.e .chart c,.l .int s] [] (.x (.c (.own 0))) [.own 9 .str (dz c.states s)]:=by
 have hl:=(jc c).1 h.1.few
 have hi:=n5 h.2
 refine dg iz Tryz.func23 (.need (c.vars.length≤2199023255552∧c.states.length≤2199023255552) (.ite (!(bj c==(0:Int)&&bb c.states s)) (.ret (.p (.v (Value.slice none 0 0))) []) (.stop zCv3 (zCv4 s c)))) fun Γ=>?_
 have hc:bj c=0:=(c8 c).2 h.1
 refine ⟨⟨by omega,by omega⟩,fun hb=>?_,fun _=>?_⟩
 · exfalso
   have hb':(!(bj c==0&&bb c.states s))=true:=hb
   rw [hc,h.2] at hb'; cases hb'
 · refine J.nilOwn 5 9 .str rfl (by kernel_rfl) ?_
   exact HS c s (by omega) hi.1 Γ s.length 0 (by omega) (by omega)
theorem qU (h:(c.vars.length≤2199023255552∧c.states.length≤2199023255552)∧¬(Valid c∧bb c.states s=true)):ah Tryz.prog 23 [.e .chart c,.l .int s] [] (.x (.c (.pd (.v (.slice none 0 0))))) []:=by
 refine dg iz Tryz.func23 (.need (c.vars.length≤2199023255552∧c.states.length≤2199023255552) (.ite (!(bj c==(0:Int)&&bb c.states s)) (.ret (.p (.v (Value.slice none 0 0))) []) (.stop zCv3 (zCv4 s c)))) fun Γ=>?_
 refine ⟨h.1,fun _=>⟨rfl,rfl⟩,fun hb=>absurd ?_ h.2⟩
 have hb':(!(bj c==0&&bb c.states s))=false:=hb
 rw [cF,af] at hb'
 exact ⟨(c8 c).1 (eq_of_beq hb'.1),hb'.2⟩
theorem pP (h:(c.vars.length≤2199023255552∧c.states.length≤2199023255552)∧¬(Valid c∧bb c.states s=true)):ah Tryz.prog 22 [.e .chart c,.l .int s] [] (.x (.c (.pd (.v (.slice none 0 0))))) []:=by
 refine dg iz Tryz.func22 (.need (c.vars.length≤2199023255552∧c.states.length≤2199023255552) (.ite (!(bj c==(0:Int)&&bb c.states s)) (.ret (.p (.v (Value.slice none 0 0))) []) (.stop zCv3 { n:=37,fr:=[(2,.x (.c (.loc 0 0))),(4,.p (.v (Value.slice none 0 0))),(5,.p (.v (Value.slice none 0 0))),(13,.p (.lst .int s)),(14,.i s.length),(15,.i 0)],ck:=[zCv1 c] }))) fun Γ=>?_
 refine ⟨h.1,fun _=>⟨rfl,rfl⟩,fun hb=>absurd ?_ h.2⟩
 have hb':(!(bj c==0&&bb c.states s))=false:=hb
 rw [cF,af] at hb'
 exact ⟨(c8 c).1 (eq_of_beq hb'.1),hb'.2⟩
abbrev zCv5:List (Nat×SV):=[(1,.p (.lst .int a)),(2,.x (.c (.loc 0 0))),(4,.p (.v (Value.slice none 0 0))),(5,.p (.v (Value.slice none 0 0))),(6,.i 0)]
theorem wy (h:s.length≤1000∧∀ y∈s,0≤y∧y<(c.states.length:Int)):ah Tryz.prog 24 [.e .chart c,.l .int s] [] (.x (.c (.own 0))) [.own 3 .int (cf c.states s)]:=by
 refine dg k0 Tryz.func24 (.stop zCv2 { n:=43,fr:=(zCv5 s),ck:=[zCv1 c] }) fun Γ=>?_
 refine J.nilOwn 5 3 .int rfl (by kernel_rfl) ?_
 exact II c s h.1 h.2 Γ s.length 0 (by omega) (by omega)
theorem y6 (h:s.length≤1000∧∀ y∈s,0≤y∧y<(c.states.length:Int)):ah Tryz.prog 26 [.e .chart c,.l .int s] [] (.x (.c (.own 0))) [.own 9 .str (dz c.states s)]:=by
 refine dg k0 Tryz.func26 (.stop zCv2 { n:=26,fr:=(zCv5 s),ck:=[zCv1 c] }) fun Γ=>?_
 refine J.nilOwn 5 9 .str rfl (by kernel_rfl) ?_
 exact Iv c s h.1 h.2 Γ s.length 0 (by omega) (by omega)
end Go.Proofs.YtcopfgbbjdefbaaGreatDoor
