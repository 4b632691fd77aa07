/- Contracts: conf: Leaves; layer 10's example. Conditions: sizes. From a call's contract to a law's row: arguments opened, the row shut. Conditions: each theorem's own. From a row that lists the library's tables to what the walks ask; a world for the witness. Conditions: none. -/
import Derived.Test.YtcopfgbbjdefbaaGreatDoorSz
import Derived.Test.YtcopfgbbjdefbaaGreatDoorCk
import Derived.Test.YtcopfgbbjdefbaaGreatDoorSq
import Derived.Test.YtcopfgbbjdefbaaGreatDoorPY
import Derived.ProofKit
import Derived.Deep.Slices
import Derived.SizedLaws
import Derived.Test.YtcopfgbbjdefbaaGreatDoorCards
import Derived.Test.YtcopfgbbjdefbaaGreatDoorTie
import Derived.Deep.DeepHandedRow
import Derived.Lib.LaidTab
import Derived.LaidSub
import Derived.Stop.LaidErr
import Derived.MakeChecks
import Derived.Shelf.Vars
namespace Go.Proofs.YtcopfgbbjdefbaaGreatDoor
open Go Go.Ev
set_option maxRecDepth 100000
abbrev zCn1 (a:Chart):Chunk:=.cells [.pd (.str a.name),.pd (.lst .str a.events),.pd (.lst .var a.vars),.pd (.lst .stat a.states),.pd (.lst .tran a.trans)] 27
abbrev zCn2:List PI:=[.code [1,1,1,0,1,0,0],.inLoop [1,1,1,0,1,0,0],.inBlock 0,.code [1,1,1,1]]
variable (a:Str) (c:Chart) (d:List Ev.Stat) (s:List Int)
theorem Eg (hl:s.length≤1000) (hs:∀ y∈s,0≤y∧y<(c.states.length:Int)) (Γ:Ctx):∀ (n k:Nat),s.length - k≤n→k≤s.length →
 J Tryz.prog 22 (aA Tryz.f22) Γ (Eq2 (.x (.c (.own 0))) [.own 3 .int (fJ c.states s)]) zCn2 ({ n:=37,fr:=[(2,.x (.c (.loc 0 0))),(4,.p (.v (Value.slice none 0 0))),(5,.x (.c (.own 1))),(13,.p (.lst .int s)),(14,.i s.length),(15,.i ((k:Int)))],ck:=[zCn1 c,.own 3 .int (fJ c.states (s.take k))] }):=by
 have hm:s.length≤maxLen:=by unfold maxLen; omega
 intro n
 induction n with
 | zero=>?_
 | succ n ih=>?_
 all_goals
  intro k hn hk
  have hol:(fJ c.states (s.take k)).length≤k:=aw (bK _ _) (by rw [ba]; omega)
  have htk:∀ hk':k<s.length,fJ c.states (s.take (k+1))=fJ c.states (s.take k)++(if tn c.states (ETy.get .int s k)=true then [ETy.get .int s k] else []):=fun hk'=>by
   unfold fJ
   rw [ETy.get_eq (t:=.int) (List.getElem?_eq_getElem hk'),aZ hk',cE]
   cases h:tn c.states s[k] <;> simp [h]
  generalize hout:fJ c.states (s.take k)=out at hol htk
  refine jg sl Tryz.func22 (let x1:List (Nat×SV):=[(2,.x (.c (.loc 0 0))),(4,.p (.v (Value.slice none 0 0))),(5,.x (.c (.own 1))),(13,.p (.lst .int s)),(14,.i s.length),(15,.i (IntKind.wrap .i64 ((k:Int)+1)))]; let x2:List PI:=zCn2; let x3:=(ETy.get .stat c.states ((ETy.get .int s k).toNat)); .ite (decide ((k:Int)<(s.length:Int))) (.need (inRg k s.length) (.need ((0:Int)≤ETy.get .int s k∧ETy.get .int s k<(c.states.length:Int)) (.ite (Stat.kind x3==(1:Int)||Stat.kind x3==(4:Int)) (.need (room ((out++[ETy.get .int s k]).length) 8) (.stop x2 { n:=37,fr:=x1,ck:=[zCn1 c,.own 3 .int (out++[ETy.get .int s k])] })) (.stop x2 { n:=37,fr:=x1,ck:=[zCn1 c,.own 3 .int out] })))) (.ret (.x (.c (.own 0))) [.own 3 .int out])) ?_
  conv=>zeta
  refine ⟨fun hlt=>?_,fun hge=>?_⟩
  · have hk':k<s.length:=by have:=of_decide_eq_true hlt; omega
    have ht:=htk hk'
    have hy:=hs (ETy.get .int s k) (by rw [ETy.get_eq (t:=.int) (List.getElem?_eq_getElem hk')]; exact b6 hk')
    refine ⟨⟨by omega,by omega⟩,hy,fun hb=>?_,fun hb=>?_⟩
    · rw [if_pos (by exact hb)] at ht
      refine ⟨⟨by rw [ar]; show (_+1) * 8≤_; omega,by rw [ar]; show _+1≤_; unfold maxLen; omega⟩,?_⟩
      rw [a6 (aE hk' hm),← ht]
      first
      | (exfalso; omega)
      | exact ih (k+1) (by omega) (by omega)
    · have hb':tn c.states (ETy.get .int s k)=false:=hb
      rw [if_neg (by rw [hb']; decide),aM] at ht
      rw [a6 (aE hk' hm),← ht]
      first
      | (exfalso; omega)
      | exact ih (k+1) (by omega) (by omega)
  · have hke:k=s.length:=by have:=of_decide_eq_false hge; omega
    subst hke
    rw [aY (aq _)] at hout
    rw [← hout]; exact ⟨rfl,rfl⟩
theorem IL {l:List Ev.Stat} {s:List Int} (h:cy l s=true):(∀ y∈s,0≤y∧y<(l.length:Int))∧s.length≤l.length:=by
 unfold cy at h
 rw [ae] at h
 have h1:=(nN l s (-1) (by omega)).1 h.1
 have h2:∀ y∈s,0≤y∧y<(l.length:Int):=fun y hy=>by
  obtain ⟨_,i,rfl,hi,_⟩:=h1.2 y hy
  omega
 refine ⟨h2,?_⟩
 have h3:=nK s 0 l.length h1.1 h2
 rw [if_pos (by omega)] at h3
 omega
theorem tQ (h:Valid c∧cy c.states s=true):ag Tryz.prog 22 [.e .chart c,.l .int s] [] (.x (.c (.own 0))) [.own 3 .int (fJ c.states s)]:=by
 have hl:=(gR c).1 h.1.few
 have hi:=IL h.2
 refine dg sl Tryz.func22 (.need (c.vars.length≤2199023255552∧c.states.length≤2199023255552) (.ite (!(bI c==(0:Int)&&cy c.states s)) (.ret (.p (.v (Value.slice none 0 0))) []) (.stop zCn2 { n:=37,fr:=[(2,.x (.c (.loc 0 0))),(4,.p (.v (Value.slice none 0 0))),(5,.p (.v (Value.slice none 0 0))),(13,.p (.lst .int s)),(14,.i s.length),(15,.i 0)],ck:=[zCn1 c] }))) fun Γ=>?_
 have hc:bI c=0:=(dH c).2 h.1
 refine ⟨⟨by omega,by omega⟩,fun hb=>?_,fun _=>?_⟩
 · exfalso
   have hb':(!(bI c==0&&cy c.states s))=true:=hb
   rw [hc,h.2] at hb'; cases hb'
 · refine J.nilOwn 5 3 .int rfl (by kernel_rfl) ?_
   exact Eg c s (by omega) hi.1 Γ s.length 0 (by omega) (by omega)
/-! ### the example -/
theorem o6 {V:Vn} {a:Str} {d:List Ev.Stat} {u:Value} (h:SX.R V (.agg [.pd (.str a),.pd (.v (.slice none 0 0)),.pd (.v (.slice none 0 0)),.pd (.lst .stat d),.pd (.v (.slice none 0 0))]) u):SX.R V (.e .chart ⟨a,[],[],d,[]⟩) u:=by
 obtain ⟨us,e,hu⟩:=h
 refine ⟨us,e,?_⟩
 cases hu with | cons h0 hu=>cases hu with | cons h1 hu=>cases hu with | cons h2 hu=>cases hu with | cons h3 hu=>cases hu with | cons h4 hu =>
  cases hu
  exact .cons h0 (.cons (mR h1) (.cons (mR h2) (.cons h3 (.cons (mR h4) .nil))))
theorem ko:Valid ⟨[99],[],[],[⟨[114],2,0,[97],[],[]⟩,⟨[97],1,1,[],[],[]⟩],[]⟩:=by
 refine ⟨by decide,by decide,by decide,by decide,by decide,by decide,fun k hk=>?_,fun k hk=>absurd hk (Nat.not_lt_zero _),fun k hk=>?_,fun k hk=>absurd hk (Nat.not_lt_zero _)⟩
 · have hk':k<2:=hk
   rcases (show k=0∨k=1 by omega) with rfl | rfl <;> decide
 · have hk':k<2:=hk
   rcases (show k=0∨k=1 by omega) with rfl | rfl <;> decide
theorem Bq (h:Valid ⟨a,[],[],d,[]⟩):ag Tryz.prog 10 [.agg [.pd (.str a),.pd (.v (.slice none 0 0)),.pd (.v (.slice none 0 0)),.pd (.lst .stat d),.pd (.v (.slice none 0 0))]] [] (.x (.c (.own 0))) [.own 3 .int (dq d)] :=
 ag.sub (fun V vs hv=>by
  cases hv with | cons h1 hv =>
   cases hv
   exact .cons (o6 h1) .nil) (oG ⟨a,[],[],d,[]⟩ h)
def n8:Ent:=(10,fun
 | [.agg [.pd (.str a),.pd (.v (.slice none 0 0)),.pd (.v (.slice none 0 0)),.pd (.lst .stat d),.pd (.v (.slice none 0 0))]],[]=>some (some (Valid ⟨a,[],[],d,[]⟩),.x (.c (.own 0)),[.own 3 .int (dq d)])
 | _,_=>none)
theorem AG:EntOk Tryz.prog n8:=entOk fun vs ck=>by
 unfold n8; dsimp only; split
 · rename_i a d; exact entS fun hp=>Bq a d hp
 · exact entN
theorem DB (h:Valid ⟨a,[],[],d,[]⟩):ag Tryz.prog 14 [.agg [.pd (.str a),.pd (.v (.slice none 0 0)),.pd (.v (.slice none 0 0)),.pd (.lst .stat d),.pd (.v (.slice none 0 0))],.l .int s] [] (.x (.b (cy d s))) []:=by
 have hl:=(gR _).1 h.few
 have h2:d.length≤2199023255552:=by have:d.length≤40:=hl.2.2.1; omega
 have e:(bI ⟨a,[],[],d,[]⟩==0&&cy d s)=cy d s:=by rw [(dH _).2 h]; rfl
 rw [← e]
 exact ag.sub (fun V vs hv=>by
  cases hv with | cons h1 hv=>cases hv with | cons h2 hv =>
   cases hv
   exact .cons (o6 h1) (.cons h2 .nil)) (kN ⟨a,[],[],d,[]⟩ s ⟨by simp,h2⟩)
def nM:Ent:=(14,fun
 | [.agg [.pd (.str a),.pd (.v (.slice none 0 0)),.pd (.v (.slice none 0 0)),.pd (.lst .stat d),.pd (.v (.slice none 0 0))],.c (.pd (.lst .int s))],[]=>some (some (Valid ⟨a,[],[],d,[]⟩),.x (.c (.pd (.bool (cy d s)))),[])
 | _,_=>none)
theorem yT:EntOk Tryz.prog nM:=entOk fun vs ck=>by
 unfold nM; dsimp only; split
 · rename_i a d s; exact entS fun hp=>DB a d s hp
 · exact entN
theorem Ak (h:Valid ⟨a,[],[],d,[]⟩∧cy d s=true):ag Tryz.prog 22 [.agg [.pd (.str a),.pd (.v (.slice none 0 0)),.pd (.v (.slice none 0 0)),.pd (.lst .stat d),.pd (.v (.slice none 0 0))],.l .int s] [] (.x (.c (.own 0))) [.own 3 .int (fJ d s)] :=
 ag.sub (fun V vs hv=>by
  cases hv with | cons h1 hv=>cases hv with | cons h2 hv =>
   cases hv
   exact .cons (o6 h1) (.cons h2 .nil)) (tQ ⟨a,[],[],d,[]⟩ s h)
def lL:Ent:=(22,fun
 | [.agg [.pd (.str a),.pd (.v (.slice none 0 0)),.pd (.v (.slice none 0 0)),.pd (.lst .stat d),.pd (.v (.slice none 0 0))],.c (.pd (.lst .int s))],[]=>some (some (Valid ⟨a,[],[],d,[]⟩∧cy d s=true),.x (.c (.own 0)),[.own 3 .int (fJ d s)])
 | _,_=>none)
theorem wI:EntOk Tryz.prog lL:=entOk fun vs ck=>by
 unfold lL; dsimp only; split
 · rename_i a d s; exact entS fun hp=>Ak a d s hp
 · exact entN
def Jr:Cfg:=⟨bb,[ye,AL,n8,nM,lL,ld]⟩
theorem sb:af Tryz.prog Jr.tab:=(af.cons xr (af.cons HA (af.cons AG (af.cons yT (af.cons wI (af.cons nd af.nil))))))
def wkS (x:SX) (ck:List Chunk):ST:={ n:=31,fr:=[(0,.x (.c (.pd (.bool false)))),(24,.x (.c (.pd (.bool true)))),(25,.x (.agg [.pd (.str [99]),.pd (.v (.slice none 0 0)),.pd (.v (.slice none 0 0)),.pd (.lst .stat [⟨[114],2,0,[97],[],[]⟩,⟨[97],1,1,[],[],[]⟩]),.pd (.v (.slice none 0 0))])),(26,.x x)],ck:=ck,kn:=[0] }
abbrev vX:Prop:=Valid ⟨[99],[],[],[⟨[114],2,0,[97],[],[]⟩,⟨[97],1,1,[],[],[]⟩],[]⟩
theorem vU:ag Tryz.prog 9 [] [] (.x (.b true)) []:=by
 refine ag.of Tryz.func9 (by kernel_rfl) (by kernel_rfl) fun Γ=>?_
 have h2:J Tryz.prog 9 (aA Tryz.f9) Γ (Eq2 (.x (.b true)) []) [PI.ops [1,1,0] 18,PI.code [1,1,1]] (wkS (.l .int [0,1]) [.dead]) :=
  (jZ (a:=[]) (fn:=Tryz.f9) (fz:=999) sb Tryz.func9 12 (ps:=[vX∧true=true]) (by kernel_rfl) ⟨⟨ko,rfl⟩,trivial⟩ ⟨rfl,rfl⟩).1
 have h1:J Tryz.prog 9 (aA Tryz.f9) Γ (Eq2 (.x (.b true)) []) [PI.ops [1,1,0] 18,PI.code [1,1,1]] (wkS (.c (.own 0)) [.own 3 .int [0,1]]):=J.freeze bb [0] (by kernel_rfl) h2
 exact J.runE (fn:=Tryz.f9) sb Tryz.func9 999 3 [true=true→vX,true=true→vX,vX,exV=exV] (by kernel_rfl) ⟨fun _=>ko,fun _=>ko,ko,rfl,trivial⟩ h1
def gL:Ent:=(9,fun
 | [],[]=>some (none,.x (.c (.pd (.bool true))),[])
 | _,_=>none)
theorem ja:EntOk Tryz.prog gL:=entOk fun vs ck=>by
 unfold gL; dsimp only; split
 · exact entS fun hp=>vU
 · exact entN
end Go.Proofs.YtcopfgbbjdefbaaGreatDoor
namespace Go.Ev
open Go.RowKit Go.ChangeShapes Go.WideShapes
def HW (W:World):Mem:=fun k=>W.heap[k]?
def VW (W:World):Vn:=⟨HW W,fun _=>0,fun _=>undef⟩
theorem BB (W:World):WOk (entry [] (VW W) W) [] (VW W) W where
 ext:=Fr.refl _ _
 imm:=fun _ _ h=>h
 hle:=HLe.refl _
 frz:=fun _ h=>.inl h
 agr:=fun i hi=>absurd hi (Nat.not_lt_zero _)
 own:=fun i c h=>by simp at h
 base:=fun i c b h=>by simp at h
 inj:=fun i j c d b h=>by simp at h
theorem ag.law {P:Program} {f:FuncId} {args:List SX} {b:Bool} (h:ag P f args [] (.x (.c (.pd (.bool b)))) []) {W:World} (hT:fA P (HW W)) {vs:List Value} (hvs:All2 (SX.R (VW W)) args vs) :
 Calls P f vs.toArray W (fun e W'=>e = .returned (.bool b)∧Below W.heap.size W W'):=by
 refine (h W (VW W) vs (BB W) hT hvs).mono fun e W' hp=>?_
 obtain ⟨v,V',rfl,hr,hw⟩:=hp
 have hr':PR V'.H (.bool b) v:=hr
 cases hr'
 refine ⟨rfl,hw.ext.os,hw.ext.tape,hw.ext.output,hw.ext.size,fun k hk=>hw.ext.block k hk ?_⟩
 rintro ⟨i,c,hc,_⟩
 simp [entry] at hc
section
variable {Hh:Type} {enc:TypeId×Value→Hh} {P:Program} {W:World} {base:Nat} {spare:Nat→Bool} {held:Bool}
theorem If {a:Addr} (hs:a.spot=none) {b off:Nat} (hb:a.block=b) (ho:a.off=off) {i:Nat} {u:Value} (h:W.cell? (a.add i)=some u):∃ cells e fr,W.heap[b]?=some (.cells cells e fr)∧cells[off+i]?=some u:=by
 obtain ⟨b',off',sp⟩:=a
 simp only at hs hb ho
 subst hs; subst hb; subst ho
 rw [addr_add] at h
 unfold World.cell? at h
 split at h
 · rename_i c e fr hb
   exact ⟨c,e,fr,hb,by simpa using h⟩
 · cases h
end
section
variable {Hh:Type} {enc:TypeId×Value→Hh} {P:Program} {W W':World}
theorem me (hl:laidOutB P=true) (hb:Below W.heap.size W W'):∀ {ts:List TypeId} {vs:List Value} {ds:List (DataW Hh)} {p:List MemPlace},(∀ t∈ts,P.readableRec t=true∧t<P.types.size)→(∀ x∈p,x.block<W.heap.size) →
 DataW.TrodAll enc P W 0 (fun _=>true) true ts vs ds p→DataW.TrodAll enc P W' 0 (fun b=>decide (b<W.heap.size)) true ts vs ds p
 | [],_,_,_,_,_,h=>by
   obtain ⟨rfl,rfl,rfl⟩:=trodAll_nil h
   rfl
 | t::ts,_,_,_,hr,hp,h=>by
   obtain ⟨v,vs,d,ds,a,b,rfl,rfl,rfl,h1,h2⟩:=trodAll_cons h
   exact ⟨a,b,Below.trod hl (hr t ax).1 (hr t ax).2 h1 hb (fun x hx=>hp x (cK _ hx)),
    me hl hb (fun u hu=>hr u (aH _ hu)) (fun x hx=>hp x (cD _ hx)) h2,rfl⟩
theorem vZ {f:Func} {s:ChangeSpec} {tb:TypeId} {args:Array Value} {ds gs:List (DataW Hh)} {before:List MemPlace} (hl:laidOutB P=true) (hrt:f.resultTypes.toList=[tb]) (hsz:f.resultTypes.size=1) (htb:P.underlying tb=some .bool) (hvars:s.vars=[])
 (hfn:(s.fn Hh ds).results=[.lit (.bool true)]∧(s.fn Hh ds).args=ds∧(s.fn Hh ds).vars=[]) (hpar:∀ t∈f.params.toList,P.readableRec t=true∧t<P.types.size)
 (hW:DataW.Whole enc P f.params.toList s.vars false W args.toList ds gs before) (hb:Below W.heap.size W W'):s.post enc P f false true false false W args (.bool true) W':=by
 have hW':=hW
 obtain ⟨p,q,hA,hV,rfl,hfz,hnd⟩:=hW
 rw [hvars] at hV
 obtain ⟨rfl,rfl⟩:=trodVars_none hV
 rw [aM] at hW' hfz
 have hlt:∀ x∈p,x.block<W.heap.size:=fun x hx=>by simpa using hW'.lt x hx
 refine ⟨ds,[],p,[],p,[],hW',?_,?_,?_,?_,fun h=>Bool.noConfusion h⟩
 · rw [aM,hfn.1,hrt,hsz]
   exact trodAll_mk1 (shut_bool htb _)
 · rw [aM,hfn.2.1]
   exact me hl hb hpar hlt hA
 · rw [aM,hfn.2.2,hvars]
   rfl
 · exact World.keptBut_mono (fun x hx=>⟨hx,.inr (.inl hx)⟩) (hb.frame _)
end
end Go.Ev
namespace Go.Proofs.YtcopfgbbjdefbaaGreatDoor
open Go Go.Ev Go.RowKit Go.ChangeShapes Go.WideShapes Go.ChangeAt
set_option maxRecDepth 100000
theorem own:ownKnob Tryz.prog.godebug=none:=by kernel_rfl
theorem laidOut:laidOutB Tryz.prog=true:=by kernel_rfl
theorem xL {P:Program} {W:World} {name:String} {cs:Array Value} (h:W.var? P name=some cs):qM P (HW W) name cs:=by
 unfold World.var? at h
 cases hg:P.globalNamed name with
 | none=>rw [hg] at h; simp at h
 | some g =>
   rw [hg] at h
   simp only [Option.bind_some] at h
   split at h
   · rename_i c e fr hb
     simp only [aa] at h
     subst h
     exact ⟨g,e,fr,hg,hb⟩
   · cases h
abbrev rG:ByteArray:=⟨#[118,97,108,117,101,32,111,117,116,32,111,102,32,114,97,110,103,101]⟩
abbrev pS:ByteArray:=⟨#[105,110,118,97,108,105,100,32,115,121,110,116,97,120]⟩
theorem Jf (u:TypeId) (h:Tryz.prog.typeName? 3 u=some "*errors.errorString"):u=276 :=
 typeName_ptr_named (nm:="errors.errorString") (by rw [show ("*"++"errors.errorString":String)="*errors.errorString" by kernel_rfl]; kernel_rfl) (by kernel_rfl) (by decide) u (by rw [show ("*"++"errors.errorString":String)="*errors.errorString" by kernel_rfl]; exact h)
theorem xt {W:World} {n:String} {text:List UInt8} {l:List (String×DataW Unit)} (h:laidMetH Tryz.prog l W) (e:(l.filter fun x=>x.1==n)=[(n,.iface "*errors.errorString" (.ptr (.agg [.lit (.string text)])))]) (ht:(Tryz.prog.globals[(Tryz.prog.globalNamed n).getD 0]?).map (·.type)=some 178) (hg:(Tryz.prog.globalNamed n).isSome=true):E8 Tryz.prog (HW W) n:=fun _=>by
 have h1:=laidMetH.filter (fun x=>x.1==n) h
 rw [e,MakeChecks.laidMetH_plain _ _ _ (by rfl)] at h1
 obtain ⟨g,hg⟩:=Option.isSome_iff_exists.1 hg
 rw [hg] at ht
 obtain ⟨a0,s0,hv0, -, -, -⟩:=laid_sentinel h1 hg ht Tryz.underlying178 Jf Tryz.underlying276 Tryz.underlying278 rfl rfl Tryz.underlying9 (by kernel_rfl) (by kernel_rfl)
 exact ⟨_,_,xL hv0⟩
theorem Bv {W:World} (h:W.ShapedOpen Tryz.prog):uG Tryz.prog (HW W) "internal/bytealg.MaxLen":=fun _=>by
 obtain ⟨m,hm⟩:∃ m,W.cell? ⟨0,0,none⟩=some (.int .i64 m):=Go.Proofs.cell_of_shapedOpen_int (zero:=#[.int .i64 0]) (t:=3) h (of_decide_eq_true (by kernel_rfl)) (by kernel_rfl) rfl (by kernel_rfl) (by kernel_rfl) Tryz.underlying3
 unfold World.cell? at hm
 split at hm
 · split at hm
   · cases hm
   · rename_i cs e fr hb _
     exact ⟨0,cs,e,fr,m,by kernel_rfl,hb,hm⟩
 · cases hm
theorem GF {W:World} (h:laidMetH Tryz.prog Rows.confStartRow.laid W) (hs:W.ShapedOpen Tryz.prog):fA Tryz.prog (HW W):=by
 refine ⟨fun _=>?_,xt (text:=pS.data.toList) h (by kernel_rfl) (by kernel_rfl) (by kernel_rfl),xt (text:=rG.data.toList) h (by kernel_rfl) (by kernel_rfl) (by kernel_rfl),Bv hs⟩
 have h1:=laidMetH.filter (fun x=>x.1=="internal/strconv.uint64pow10") h
 have e:(Rows.confStartRow.laid.filter fun x=>x.1=="internal/strconv.uint64pow10")=[("internal/strconv.uint64pow10",Lib.tabData .u64 Lib.pow10Tab)]:=by kernel_rfl
 rw [e] at h1
 have ht:(Tryz.prog.globals[(Tryz.prog.globalNamed "internal/strconv.uint64pow10").getD 0]?).map (·.type)=some 280:=by kernel_rfl
 exact xL (Lib.tabIs_of_head (rest:=[]) (g:=(Tryz.prog.globalNamed "internal/strconv.uint64pow10").getD 0) (by kernel_rfl) ht Tryz.underlying280 Tryz.underlying170 (by kernel_rfl) (by kernel_rfl) h1)
noncomputable def HQ:DataW Unit→List Value
 | .lit (.int k z)=>[Value.int k z]
 | .agg [.lit (.int k z),.lit (.int k' z')]=>[Value.int k z,Value.int k' z']
 | _=>[]
noncomputable def EO:DataW Unit→Array Value
 | .agg ds=>(ds.flatMap HQ).toArray
 | _=>#[]
noncomputable def o3 (name:String) (cs:Array Value) (heap:Array Obj):Array Obj:=heap.modify ((Tryz.prog.globalNamed name).getD 0) fun
 | .cells _ t frozen=>.cells cs t frozen
 | o=>o
noncomputable def mz (name:String) (d:DataW Unit) (heap:Array Obj):Array Obj:=o3 name (EO d) heap
noncomputable def low:Nat:=(World.holding Tryz.prog default ⟨#[],#[],[]⟩).heap.size
noncomputable def BG (os:Os):World:=World.holding Tryz.prog os ⟨#[.cells #[.string rG] 278,.cells #[.string pS] 278],#[],[]⟩
noncomputable def gT (os:Os):World :=
 { BG os with heap:=o3 "strconv.ErrRange" #[.iface 276 (.pointer (some ⟨low,0,none⟩))] (o3 "strconv.ErrSyntax" #[.iface 276 (.pointer (some ⟨low+1,0,none⟩))] (mz "unicode/utf8.first" Rows.laid_unicode_utf8_first (mz "unicode/utf8.acceptRanges" Rows.laid_unicode_utf8_acceptRanges (mz "internal/strconv.uint64pow10" Rows.laid_internal_strconv_uint64pow10 (mz "math/bits.deBruijn64tab" Rows.laid_math_bits_deBruijn64tab (mz "math/bits.deBruijn32tab" Rows.laid_math_bits_deBruijn32tab (BG os).heap)))))) }
end Go.Proofs.YtcopfgbbjdefbaaGreatDoor
