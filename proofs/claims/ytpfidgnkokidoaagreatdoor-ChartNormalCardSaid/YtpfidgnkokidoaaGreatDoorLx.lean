/- Contracts: the layer's example, copies; charts without parts alike. Conditions: each one's own. Contracts: the laws ChartParses, ChartPrefix, ChartNormal, ChartBack. Conditions: each one's own. From a call's contract to a law's row: arguments opened, the row shut. Conditions: each theorem's own. From a row that lists the library's tables to what the walks ask; a world for the witness. Conditions: none. -/
import Derived.Test.YtpfidgnkokidoaaGreatDoorXv
import Derived.Test.YtpfidgnkokidoaaGreatDoorWp
import Derived.Test.YtpfidgnkokidoaaGreatDoorUh
import Derived.Test.YtpfidgnkokidoaaGreatDoorMr
import Derived.Test.YtpfidgnkokidoaaGreatDoorMf
import Derived.Test.YtpfidgnkokidoaaGreatDoorShelfb
import Derived.Test.YtpfidgnkokidoaaGreatDoorWo
import Derived.Test.YtpfidgnkokidoaaGreatDoorWj
import Derived.Test.YtpfidgnkokidoaaGreatDoorWr
import Derived.Test.YtpfidgnkokidoaaGreatDoorYe
import Derived.Test.YtpfidgnkokidoaaGreatDoorYw
import Derived.Test.YtpfidgnkokidoaaGreatDoorShelfi
import Derived.Test.YtpfidgnkokidoaaGreatDoorYj
import Derived.Test.YtpfidgnkokidoaaGreatDoorPX
import Derived.ProofKit
import Derived.Deep.Slices
import Derived.SizedLaws
import Derived.Test.YtpfidgnkokidoaaGreatDoorCards
import Derived.Test.YtpfidgnkokidoaaGreatDoorTie
import Derived.Deep.DeepHandedRow
import Derived.Lib.LaidTab
import Derived.LaidSub
import Derived.Stop.LaidErr
import Derived.MakeChecks
import Derived.Shelf.Vars
namespace Go.Proofs.YtpfidgnkokidoaaGreatDoor
open Go Go.Ev
set_option maxRecDepth 100000
theorem ak.sub {P:Program} {f:FuncId} {args args':List SX} {ck ck':List Chunk} {ret:SV} (h:∀ (V:Vn) (vs:List Value),All2 (SX.R V) args vs→All2 (SX.R V) args' vs) (d:ak P f args' ck ret ck'):ak P f args ck ret ck' :=
 fun w V vs hw hT hv=>d w V vs hw hT (h V vs hv)
theorem ng {H:Mem} {t:ETy} {u:Value} (h:PR H (.v (.slice none 0 0)) u):PR H (.lst t []) u:=by
 cases h; exact .emp t none 0 (fun _=>rfl)
theorem tL {V:Vn} {a:Str} {u:Value} (h:SX.R V (.agg [.pd (.str a),.pd (.v (.slice none 0 0)),.pd (.v (.slice none 0 0)),.pd (.v (.slice none 0 0)),.pd (.v (.slice none 0 0))]) u):SX.R V (.e .chart ⟨a,[],[],[],[]⟩) u:=by
 obtain ⟨us,e,hu⟩:=h
 refine ⟨us,e,?_⟩
 cases hu with | cons h0 hu=>cases hu with | cons h1 hu=>cases hu with | cons h2 hu=>cases hu with | cons h3 hu=>cases hu with | cons h4 hu =>
  cases hu
  exact .cons h0 (.cons (ng h1) (.cons (ng h2) (.cons (ng h3) (.cons (ng h4) .nil))))
theorem DP (a:Str):SmallC ⟨a,[],[],[],[]⟩:=⟨by simp,by simp,by simp,by simp,by simp,by simp⟩
theorem Dw (a b:Str):ak Tryz.prog 11 [.agg [.pd (.str a),.pd (.v (.slice none 0 0)),.pd (.v (.slice none 0 0)),.pd (.v (.slice none 0 0)),.pd (.v (.slice none 0 0))],.agg [.pd (.str b),.pd (.v (.slice none 0 0)),.pd (.v (.slice none 0 0)),.pd (.v (.slice none 0 0)),.pd (.v (.slice none 0 0))]] [] (.x (.b (eR ⟨a,[],[],[],[]⟩ ⟨b,[],[],[],[]⟩))) [] :=
 ak.sub (fun V vs hv=>by
  cases hv with | cons h1 hv=>cases hv with | cons h2 hv =>
   cases hv
   exact .cons (tL h1) (.cons (tL h2) .nil)) (uX ⟨a,[],[],[],[]⟩ ⟨b,[],[],[],[]⟩ (DP a))
def r8:Ent:=(11,fun
 | [.agg [.pd (.str a),.pd (.v (.slice none 0 0)),.pd (.v (.slice none 0 0)),.pd (.v (.slice none 0 0)),.pd (.v (.slice none 0 0))],.agg [.pd (.str b),.pd (.v (.slice none 0 0)),.pd (.v (.slice none 0 0)),.pd (.v (.slice none 0 0)),.pd (.v (.slice none 0 0))]],[]=>some (none,.x (.c (.pd (.bool (eR ⟨a,[],[],[],[]⟩ ⟨b,[],[],[],[]⟩)))),[])
 | _,_=>none)
theorem D7:EntOk Tryz.prog r8:=entOk fun vs ck=>by
 unfold r8; dsimp only; split
 · rename_i a b; exact entS fun hp=>Dw a b
 · exact entN
/-! ### copies -/
/-! ### what is read is small -/
theorem LH {n:Int} (h0 : -1099511627776≤n) (h1:n≤1099511627776):pr n=true:=hO.2 ⟨by omega,by omega⟩
theorem mm {n:Int} (h:kl n=true):pr n=true:=by
 simp only [kl,ab,decide_eq_true_eq] at h
 exact LH h.1 h.2
theorem Io {n:Int} (h:pIn n=true):pr n=true:=by
 simp only [pIn,ab,decide_eq_true_eq] at h
 exact hO.2 ⟨by omega,by omega⟩
theorem J6 {v:Var} (h:hI v=true):wC v∧v.name.length≤3000000:=by
 have hn:v.name.length≤12:=by
  simp only [hI,ab] at h
  exact gW h.1
 refine ⟨?_,by omega⟩
 simp only [hI,ab] at h
 have h2:=h.2
 cases h1:v.kind==1
 · rw [h1,cond_false] at h2
   cases h3:v.kind==2
   · rw [h3,cond_false] at h2
     simp only [ab] at h2
     exact ⟨mm h2.2.1,mm h2.2.2.1,Io h2.2.2.2.2.1,Io h2.2.2.2.2.2,by omega⟩
   · rw [h3,cond_true] at h2
     simp only [ab,aF,beq_iff_eq] at h2
     obtain ⟨g1,g2,g3,g4,g5⟩:=h2
     refine ⟨by rw [g1]; decide,by rw [g2]; decide,?_,by rw [g5]; decide,by omega⟩
     rcases g4 with g | g <;> (rw [g]; decide)
 · rw [h1,cond_true] at h2
   simp only [ab,beq_iff_eq] at h2
   obtain ⟨g1,g2,g3,g4,g5⟩:=h2
   exact ⟨mm g1,mm g2,mm g4,by rw [g5]; decide,by omega⟩
theorem MW {c:Chart} (w:WfC c) (h:(bW c).length≤10000):ShowSz c:=by
 have h0:=BG w
 have h1:=gW w.name
 refine ⟨by omega,by omega,by omega,by omega,by omega,fun e he=>?_,fun v hv=>J6 (al.1 w.vars v hv),fun s hs=>?_,fun t ht=>?_⟩
 · have:=gW (al.1 w.events e he); omega
 · have h2:=al.1 w.states s hs
   simp only [eV,ab] at h2
   have h3:=gW h2.2.2.1
   refine ⟨by omega,?_⟩
   have h4:=h2.2.2.2.2.1
   cases hk:pz s.kind
   · rw [hk,cond_false] at h4
     have:s.initial=[]:=by simpa using h4
     rw [this]; simp
   · rw [hk,cond_true] at h4
     have:=gW h4; omega
 · have h2:=al.1 w.trans t ht
   simp only [gn,ab,aF,beq_iff_eq] at h2
   constructor
   · rcases h2.2.2.1 with g | g
     · rw [g]; simp
     · have:=oJ g; omega
   · rcases h2.2.2.2.2.1 with g | g
     · rw [g]; simp
     · have:=gW g; omega
theorem D8 {s:Str} (hr:eL s):ShowSz (aq s).1:=by
 have h1:=tm hr
 have h2:=(kN hr).1
 exact MW h1.1 (by have:=h1.2; omega)
/-! ### ChartParses -/
/-! ### ChartPrefix -/
/-! ### ChartNormal -/
noncomputable def HC:Cfg:=⟨bu,[vU,oj,ql,DF]⟩
theorem Iw:ai Tryz.prog HC.tab:=(ai.cons we (ai.cons qE (ai.cons xz (ai.cons Mi ai.nil))))
noncomputable def GQ:Cfg:=⟨bu,[vU,oj,ql,DU]⟩
theorem Ij:ai Tryz.prog GQ.tab:=(ai.cons we (ai.cons qE (ai.cons xz (ai.cons Mu ai.nil))))
noncomputable def G0:Cfg:=⟨bu,[BB,oj,r8]⟩
theorem G3:ai Tryz.prog G0.tab:=(ai.cons Dt (ai.cons qE (ai.cons D7 ai.nil)))
theorem ue (s:Str):ak Tryz.prog 6 [.s s] [] (.x (.b true)) []:=by
 by_cases h:eL s
 · have hz:=D8 h
   have hsm:=Ct s
   by_cases hk:okC (aq s).1
   · have hb:=CI hk
     have hr:eL (bW (aq s).1):=by show (aq (bW (aq s).1)).2.2=0; rw [hb]
     refine dg Iw Tryz.func6 (let x1:=(Prod.fst (aq (bW (Prod.fst (aq s))))); let x2:=(Value.slice none 0 0); let x3:=(Chart.name (Prod.fst (aq s))); .need (eL s) (.ite false (.ret (.p (.bool false)) []) (.ite false (.stop [.ops [1,1,1,0,1,0,0] 2,.code [1,1,1,0,1,0,1],.code [1,1,1,1]] { n:=67,fr:=[(0,.p (.str s)),(2,.p (.bool false)),(3,.x (.c (.loc 4 0))),(23,.x (.agg [.pd (.str x3),.own 0,.own 1,.own 2,.own 3])),(24,.x (.agg [.pd (.str []),.pd (.v x2),.pd (.v x2),.pd (.v x2),.pd (.v x2)]))],ck:=[.own 9 .str (Chart.events (Prod.fst (aq s))),.own 61 .var (Chart.vars (Prod.fst (aq s))),.own 64 .stat (Chart.states (Prod.fst (aq s))),.own 68 .tran (Chart.trans (Prod.fst (aq s))),.cells [.pd (.str x3),.own 0,.own 1,.own 2,.own 3] 27],kn:=[2] }) (.need (ShowSz (Prod.fst (aq s))∧okC (Prod.fst (aq s))) (.ite false (.ret (.p (.bool false)) []) (.need (eL (bW (Prod.fst (aq s)))) (.need (ShowSz x1∧okC x1) (.need (((0:Int)==0)=true→SmallC (Prod.fst (aq s))) (.ret (.p (.bool (true&&eR (Prod.fst (aq s)) x1&&(0:Int)==0&&bW x1==bW (Prod.fst (aq s))))) []))))))))) fun Γ=>?_
     conv=>zeta
     refine ⟨h,fun h0=>absurd h0 (by decide),fun _=>⟨fun h0=>absurd h0 (by decide),fun _=>⟨⟨hz,hk⟩,fun h0=>absurd h0 (by decide),fun _=>⟨hr,?_,?_,?_,rfl⟩⟩⟩⟩
     · show ShowSz (aq (bW (aq s).1)).1∧okC (aq (bW (aq s).1)).1
       rw [hb]; exact ⟨hz,hk⟩
     · exact fun _=>hsm
     · show SV.x (.b (true&&eR (aq s).1 (aq (bW (aq s).1)).1&&(0:Int)==0&&bW (aq (bW (aq s).1)).1==bW (aq s).1))=_
       rw [hb]
       simp [uQ]
   · refine dg Ij Tryz.func6 (let x1:Chart:={ name:=Chart.name (Prod.fst (aq [])),events:=[],vars:=[],states:=[],trans:=[] }; let x2:=(Value.slice none 0 0); let x3:=(Chart.name (Prod.fst (aq s))); .need (eL s) (.ite false (.ret (.p (.bool false)) []) (.ite false (.stop [.ops [1,1,1,0,1,0,0] 2,.code [1,1,1,0,1,0,1],.code [1,1,1,1]] { n:=67,fr:=[(0,.p (.str s)),(2,.p (.bool false)),(3,.x (.c (.loc 4 0))),(23,.x (.agg [.pd (.str x3),.own 0,.own 1,.own 2,.own 3])),(24,.x (.agg [.pd (.str []),.pd (.v x2),.pd (.v x2),.pd (.v x2),.pd (.v x2)]))],ck:=[.own 9 .str (Chart.events (Prod.fst (aq s))),.own 61 .var (Chart.vars (Prod.fst (aq s))),.own 64 .stat (Chart.states (Prod.fst (aq s))),.own 68 .tran (Chart.trans (Prod.fst (aq s))),.cells [.pd (.str x3),.own 0,.own 1,.own 2,.own 3] 27],kn:=[2] }) (.need (ShowSz (Prod.fst (aq s))∧¬okC (Prod.fst (aq s))) (.ite true (.ret (.p (.bool (true&&af s==(6000:Int)))) []) (.need (eL []) (.need (ShowSz x1∧¬okC x1) (.need (((0:Int)==0)=true→SmallC (Prod.fst (aq s))) (.ret (.p (.bool (true&&eR (Prod.fst (aq s)) x1&&(1:Int)==0&&([]:Str)==[]))) []))))))))) fun Γ=>?_
     conv=>zeta
     refine ⟨h,fun h0=>absurd h0 (by decide),fun _=>⟨fun h0=>absurd h0 (by decide),fun _=>⟨⟨hz,hk⟩,fun _=>⟨?_,rfl⟩,fun h0=>absurd h0 (by decide)⟩⟩⟩
     have h1:=tm h
     have h2:=(kN h).1
     have h3:¬(bW (aq s).1).length≤6000:=fun hl=>hk ⟨h1.1,hl⟩
     have h4:af s=6000:=by
      have h5:af s=(s.length:Int):=rfl
      have:=h1.2; omega
     rw [h4]; rfl
 · refine dg G3 Tryz.func6 (let x1:=(Value.slice none 0 0); .need (¬eL s) (.ite false (.ret (.p (.bool false)) []) (.ite (Prod.snd (Prod.snd (aq s)) != (0:Int)) (.ret (.p (.bool true)) []) (.stop [.ops [1,1,1,1,0] 1,.code [1,1,1,1,1]] { n:=67,fr:=[(0,.p (.str s)),(2,.p (.bool false)),(3,.x (.c (.loc 0 0))),(27,.x (.agg [.pd (.str []),.pd (.v x1),.pd (.v x1),.pd (.v x1),.pd (.v x1)]))],ck:=[.cells [.pd (.str []),.pd (.v x1),.pd (.v x1),.pd (.v x1),.pd (.v x1)] 27],kn:=[2] })))) fun Γ=>?_
   conv=>zeta
   refine ⟨h,fun h0=>absurd h0 (by decide),fun _=>⟨fun _=>⟨rfl,rfl⟩,fun h0=>?_⟩⟩
   have:(aq s).2.2=0:=by simpa using h0
   exact absurd this h
/-! ### ChartBack -/
end Go.Proofs.YtpfidgnkokidoaaGreatDoor
namespace Go.Ev
open Go.RowKit Go.ChangeShapes Go.WideShapes
def HW (W:World):Mem:=fun k=>W.heap[k]?
def VW (W:World):Vn:=⟨HW W,fun _=>0,fun _=>undef⟩
theorem Il (W:World):WOk (entry [] (VW W) W) [] (VW W) W where
 ext:=Fr.refl _ _
 imm:=fun _ _ h=>h
 hle:=HLe.refl _
 frz:=fun _ h=>.inl h
 agr:=fun i hi=>absurd hi (Nat.not_lt_zero _)
 own:=fun i c h=>by simp at h
 base:=fun i c b h=>by simp at h
 inj:=fun i j c d b h=>by simp at h
theorem ak.law {P:Program} {f:FuncId} {args:List SX} {b:Bool} (h:ak P f args [] (.x (.c (.pd (.bool b)))) []) {W:World} (hT:lD P (HW W)) {vs:List Value} (hvs:All2 (SX.R (VW W)) args vs) :
 Calls P f vs.toArray W (fun e W'=>e = .returned (.bool b)∧Below W.heap.size W W'):=by
 refine (h W (VW W) vs (Il W) hT hvs).mono fun e W' hp=>?_
 obtain ⟨v,V',rfl,hr,hw⟩:=hp
 have hr':PR V'.H (.bool b) v:=hr
 cases hr'
 refine ⟨rfl,hw.ext.os,hw.ext.tape,hw.ext.output,hw.ext.size,fun k hk=>hw.ext.block k hk ?_⟩
 rintro ⟨i,c,hc,_⟩
 simp [entry] at hc
section
variable {Hh:Type} {enc:TypeId×Value→Hh} {P:Program} {W:World} {base:Nat} {spare:Nat→Bool} {held:Bool}
end
section
variable {Hh:Type} {enc:TypeId×Value→Hh} {P:Program} {W W':World}
theorem pS (hl:laidOutB P=true) (hb:Below W.heap.size W W'):∀ {ts:List TypeId} {vs:List Value} {ds:List (DataW Hh)} {p:List MemPlace},(∀ t∈ts,P.readableRec t=true∧t<P.types.size)→(∀ x∈p,x.block<W.heap.size) →
 DataW.TrodAll enc P W 0 (fun _=>true) true ts vs ds p→DataW.TrodAll enc P W' 0 (fun b=>decide (b<W.heap.size)) true ts vs ds p
 | [],_,_,_,_,_,h=>by
   obtain ⟨rfl,rfl,rfl⟩:=trodAll_nil h
   rfl
 | t::ts,_,_,_,hr,hp,h=>by
   obtain ⟨v,vs,d,ds,a,b,rfl,rfl,rfl,h1,h2⟩:=trodAll_cons h
   exact ⟨a,b,Below.trod hl (hr t az).1 (hr t az).2 h1 hb (fun x hx=>hp x (dO _ hx)),
    pS hl hb (fun u hu=>hr u (aD _ hu)) (fun x hx=>hp x (dH _ hx)) h2,rfl⟩
theorem I9 {f:Func} {s:ChangeSpec} {tb:TypeId} {args:Array Value} {ds gs:List (DataW Hh)} {before:List MemPlace} (hl:laidOutB P=true) (hrt:f.resultTypes.toList=[tb]) (hsz:f.resultTypes.size=1) (htb:P.underlying tb=some .bool) (hvars:s.vars=[])
 (hfn:(s.fn Hh ds).results=[.lit (.bool true)]∧(s.fn Hh ds).args=ds∧(s.fn Hh ds).vars=[]) (hpar:∀ t∈f.params.toList,P.readableRec t=true∧t<P.types.size)
 (hW:DataW.Whole enc P f.params.toList s.vars false W args.toList ds gs before) (hb:Below W.heap.size W W'):s.post enc P f false true false false W args (.bool true) W':=by
 have hW':=hW
 obtain ⟨p,q,hA,hV,rfl,hfz,hnd⟩:=hW
 rw [hvars] at hV
 obtain ⟨rfl,rfl⟩:=trodVars_none hV
 rw [bt] at hW' hfz
 have hlt:∀ x∈p,x.block<W.heap.size:=fun x hx=>by simpa using hW'.lt x hx
 refine ⟨ds,[],p,[],p,[],hW',?_,?_,?_,?_,fun h=>Bool.noConfusion h⟩
 · rw [bt,hfn.1,hrt,hsz]
   exact trodAll_mk1 (shut_bool htb _)
 · rw [bt,hfn.2.1]
   exact pS hl hb hpar hlt hA
 · rw [bt,hfn.2.2,hvars]
   rfl
 · exact World.keptBut_mono (fun x hx=>⟨hx,.inr (.inl hx)⟩) (hb.frame _)
end
end Go.Ev
namespace Go.Proofs.YtpfidgnkokidoaaGreatDoor
open Go Go.Ev Go.RowKit Go.ChangeShapes Go.WideShapes Go.ChangeAt
set_option maxRecDepth 100000
theorem own:ownKnob Tryz.prog.godebug=none:=by kernel_rfl
theorem laidOut:laidOutB Tryz.prog=true:=by kernel_rfl
theorem CS {P:Program} {W:World} {name:String} {cs:Array Value} (h:W.var? P name=some cs):p5 P (HW W) name cs:=by
 unfold World.var? at h
 cases hg:P.globalNamed name with
 | none=>rw [hg] at h; simp at h
 | some g =>
   rw [hg] at h
   simp only [fX] at h
   split at h
   · rename_i c e fr hb
     simp only [aa] at h
     subst h
     exact ⟨g,e,fr,hg,hb⟩
   · cases h
abbrev yc:ByteArray:=⟨#[118,97,108,117,101,32,111,117,116,32,111,102,32,114,97,110,103,101]⟩
abbrev ur:ByteArray:=⟨#[105,110,118,97,108,105,100,32,115,121,110,116,97,120]⟩
theorem NY (u:TypeId) (h:Tryz.prog.typeName? 3 u=some "*errors.errorString"):u=250 :=
 typeName_ptr_named (nm:="errors.errorString") (by rw [show ("*"++"errors.errorString":String)="*errors.errorString" by kernel_rfl]; kernel_rfl) (by kernel_rfl) (by decide) u (by rw [show ("*"++"errors.errorString":String)="*errors.errorString" by kernel_rfl]; exact h)
theorem C8 {W:World} {n:String} {text:List UInt8} {l:List (String×DataW Unit)} (h:laidMetH Tryz.prog l W) (e:(l.filter fun x=>x.1==n)=[(n,.iface "*errors.errorString" (.ptr (.agg [.lit (.string text)])))]) (ht:(Tryz.prog.globals[(Tryz.prog.globalNamed n).getD 0]?).map (·.type)=some 75) (hg:(Tryz.prog.globalNamed n).isSome=true):Ju Tryz.prog (HW W) n:=fun _=>by
 have h1:=laidMetH.filter (fun x=>x.1==n) h
 rw [e,MakeChecks.laidMetH_plain _ _ _ (by rfl)] at h1
 obtain ⟨g,hg⟩:=dM.1 hg
 rw [hg] at ht
 obtain ⟨a0,s0,hv0, -, -, -⟩:=laid_sentinel h1 hg ht Tryz.underlying75 NY Tryz.underlying250 Tryz.underlying252 rfl rfl Tryz.underlying9 (by kernel_rfl) (by kernel_rfl)
 exact ⟨_,_,CS hv0⟩
theorem If {W:World} (h:W.ShapedOpen Tryz.prog):BP Tryz.prog (HW W) "internal/bytealg.MaxLen":=fun _=>by
 obtain ⟨m,hm⟩:∃ m,W.cell? ⟨0,0,none⟩=some (.int .i64 m):=Go.Proofs.cell_of_shapedOpen_int (zero:=#[.int .i64 0]) (t:=3) h (of_decide_eq_true (by kernel_rfl)) (by kernel_rfl) rfl (by kernel_rfl) (by kernel_rfl) Tryz.underlying3
 unfold World.cell? at hm
 split at hm
 · split at hm
   · cases hm
   · rename_i cs e fr hb _
     exact ⟨0,cs,e,fr,m,by kernel_rfl,hb,hm⟩
 · cases hm
theorem Pf {W:World} (h:laidMetH Tryz.prog Rows.chartParsesRow.laid W) (hs:W.ShapedOpen Tryz.prog):lD Tryz.prog (HW W):=by
 refine ⟨fun _=>?_,C8 (text:=ur.data.toList) h (by kernel_rfl) (by kernel_rfl) (by kernel_rfl),C8 (text:=yc.data.toList) h (by kernel_rfl) (by kernel_rfl) (by kernel_rfl),If hs⟩
 have h1:=laidMetH.filter (fun x=>x.1=="internal/strconv.uint64pow10") h
 have e:(Rows.chartParsesRow.laid.filter fun x=>x.1=="internal/strconv.uint64pow10")=[("internal/strconv.uint64pow10",Lib.tabData .u64 Lib.pow10Tab)]:=by kernel_rfl
 rw [e] at h1
 have ht:(Tryz.prog.globals[(Tryz.prog.globalNamed "internal/strconv.uint64pow10").getD 0]?).map (·.type)=some 240:=by kernel_rfl
 exact CS (Lib.tabIs_of_head (rest:=[]) (g:=(Tryz.prog.globalNamed "internal/strconv.uint64pow10").getD 0) (by kernel_rfl) ht Tryz.underlying240 Tryz.underlying182 (by kernel_rfl) (by kernel_rfl) h1)
noncomputable def MV:DataW Unit→List Value
 | .lit (.int k z)=>[Value.int k z]
 | .agg [.lit (.int k z),.lit (.int k' z')]=>[Value.int k z,Value.int k' z']
 | _=>[]
noncomputable def Kp:DataW Unit→Array Value
 | .agg ds=>(ds.flatMap MV).toArray
 | _=>#[]
noncomputable def tE (name:String) (cs:Array Value) (heap:Array Obj):Array Obj:=heap.modify ((Tryz.prog.globalNamed name).getD 0) fun
 | .cells _ t frozen=>.cells cs t frozen
 | o=>o
noncomputable def ru (name:String) (d:DataW Unit) (heap:Array Obj):Array Obj:=tE name (Kp d) heap
noncomputable def low:Nat:=(World.holding Tryz.prog default ⟨#[],#[],[]⟩).heap.size
noncomputable def Ip (os:Os):World:=World.holding Tryz.prog os ⟨#[.cells #[.string yc] 252,.cells #[.string ur] 252],#[],[]⟩
noncomputable def qD (os:Os):World :=
 { Ip os with heap:=tE "strconv.ErrRange" #[.iface 250 (.pointer (some ⟨low,0,none⟩))] (tE "strconv.ErrSyntax" #[.iface 250 (.pointer (some ⟨low+1,0,none⟩))] (ru "unicode/utf8.first" Rows.laid_unicode_utf8_first (ru "unicode/utf8.acceptRanges" Rows.laid_unicode_utf8_acceptRanges (ru "internal/strconv.uint64pow10" Rows.laid_internal_strconv_uint64pow10 (ru "math/bits.deBruijn64tab" Rows.laid_math_bits_deBruijn64tab (ru "math/bits.deBruijn32tab" Rows.laid_math_bits_deBruijn32tab (Ip os).heap)))))) }
theorem MJ {Hh:Type} {enc:TypeId×Value→Hh} {W:World} {base:Nat} {spare:Nat→Bool} {held:Bool} {v:Value} {d:DataW Hh} {ps:List MemPlace} {b0:Nat} (h:DataW.Trod enc Tryz.prog W base spare held 9 v d ps) (hv:Value.okWide Tryz.prog W .any b0 9 v) :
 ∃ s:Str,SX.R (VW W) (.c (.pd (.str s))) v∧d = .lit (.string s):=by
 have hv':Cell.okWide Tryz.prog W .any b0 9 v:=by simpa only [Value.okWide,Tryz.underlying9] using hv
 obtain ⟨fuel,hf⟩:=h
 have hc:v.cells.toList=[v]:=by
  have hv2:=hv'
  simp only [Cell.okWide,Tryz.underlying9,Cell.ok] at hv2
  cases v <;> first | rfl | exact hv2.elim
 rw [hc] at hf
 obtain ⟨s,h1,h2⟩:=DataW.trod_string Tryz.underlying9 hf
 simp only [gr,and_true] at h1
 subst h1
 refine ⟨s.data.toList,?_,?_⟩
 · have:PR (HW W) (.str s.data.toList) (.string (bs s.data.toList)):=.str _
   rw [lh] at this
   exact this
 · exact congrArg Prod.fst h2.1
end Go.Proofs.YtpfidgnkokidoaaGreatDoor
