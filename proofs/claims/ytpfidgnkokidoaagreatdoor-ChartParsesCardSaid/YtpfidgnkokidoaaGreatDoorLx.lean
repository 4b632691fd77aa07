/- Contracts: the document's reader of charts, whole. Conditions: none. Contracts: a chart told by the program. Conditions: sizes. Contracts: the layer's example, copies; charts without parts alike. Conditions: each one's own. Contracts: the laws ChartParses, ChartPrefix, ChartNormal, ChartBack. Conditions: each one's own. From a call's contract to a law's row: arguments opened, the row shut. Conditions: each theorem's own. From a row that lists the library's tables to what the walks ask; a world for the witness. Conditions: none. -/
import Derived.Test.YtpfidgnkokidoaaGreatDoorXq
import Derived.Test.YtpfidgnkokidoaaGreatDoorYe
import Derived.Test.YtpfidgnkokidoaaGreatDoorOb
import Derived.Test.YtpfidgnkokidoaaGreatDoorMp
import Derived.Test.YtpfidgnkokidoaaGreatDoorWm
import Derived.Test.YtpfidgnkokidoaaGreatDoorShelfi
import Derived.Test.YtpfidgnkokidoaaGreatDoorXf
import Derived.Test.YtpfidgnkokidoaaGreatDoorPX
import Derived.ProofKit
import Derived.Deep.Slices
import Derived.SizedLaws
import Derived.Test.YtpfidgnkokidoaaGreatDoorCards
import Derived.Test.YtpfidgnkokidoaaGreatDoorTie
import Derived.Deep.DeepHandedRow
import Derived.Lib.LaidTab
import Derived.LaidSub
import Derived.Stop.LaidErr
import Derived.MakeChecks
import Derived.Shelf.Vars
namespace Go.Proofs.YtpfidgnkokidoaaGreatDoor
open Go Go.Ev
set_option maxRecDepth 100000
noncomputable def KD:Cfg:=⟨a6,[uI]⟩
theorem IK:ah Tryz.prog KD.tab:=(ah.cons uX ah.nil)
noncomputable def xN:Cfg:=⟨a6,[uI,Ee]⟩
theorem vN:ah Tryz.prog xN.tab:=(ah.cons uX (ah.cons LS ah.nil))
noncomputable def Gw:Cfg:=⟨a6,[uI,Co]⟩
theorem Hz:ah Tryz.prog Gw.tab:=(ah.cons uX (ah.cons Mm ah.nil))
abbrev zXr1:List PI:=[.code [1,1,1,1,0,1,0,0],.inLoop [1,1,1,1,0,1,0,0],.inBlock 0,.code [1,1,1,1,1]]
abbrev zXr2 (a:Nat) (b:Chart) (c:List Str):ST:={ n:=33,fr:=[(2,.x (.c (.loc 0 0))),(3,.i 0),(4,.i 0),(5,.x (.c (.loc 1 0))),(6,.x (.c (.own 2))),(7,.i a)],ck:=[.cells [.pd (.str []),.pd (.v (Value.slice none 0 0)),.pd (.v (Value.slice none 0 0)),.pd (.v (Value.slice none 0 0)),.pd (.v (Value.slice none 0 0))] 27,.cells [.pd (.str b.name),.own 3,.own 4,.own 5,.own 6] 27,.own 9 .str c,.own 9 .str b.events,.own 61 .var b.vars,.own 64 .stat b.states,.own 68 .tran b.trans] }
abbrev zXr3 (a:Chart):List Chunk:=[.own 9 .str a.events,.own 61 .var a.vars,.own 64 .stat a.states,.own 68 .tran a.trans]
variable (s:Str) (ls:List Str) (Γ:Ctx)
theorem EM (c:Chart) (k:Nat) (Γ:Ctx) (hF:hG s ls c k) (hk:¬k<ls.length):J Tryz.prog 9 (az Tryz.f9) Γ (CpQ s) zXr1 ((zXr2 k c ls)):=by
 refine jg vN Tryz.func9 (let x1:=(cd c ((IntKind.wrap .i64 ((k:Int)+1) - (1:Int)).toNat) (ETy.get .str ls k)); let x2:=(Value.slice none 0 0); let x3:=(IntKind.wrap .i64 ((k:Int)+1)); .ite (decide ((k:Int)<(ls.length:Int))) (.need (inRg k ls.length) (.need (k<ls.length) (.need (Fit c 6001∧(ETy.get .str ls k).length≤6000∧(1:Int)≤IntKind.wrap .i64 ((k:Int)+1)∧Option.isSome x1=true) (.ite false (.ret (.tup [.agg [.pd (.str []),.pd (.v x2),.pd (.v x2),.pd (.v x2),.pd (.v x2)],.i x3,.i 1]) []) (.stop zXr1 { n:=33,fr:=[(2,.x (.c (.loc 0 0))),(3,.i 0),(4,.i 0),(5,.x (.c (.loc 1 0))),(6,.x (.c (.own 2))),(7,.i x3)],ck:=[.cells [.pd (.str []),.pd (.v x2),.pd (.v x2),.pd (.v x2),.pd (.v x2)] 27,.cells [.pd (.str (Chart.name (got x1))),.own 3,.own 4,.own 5,.own 6] 27,.own 9 .str ls,.own 9 .str (Chart.events (got x1)),.own 61 .var (Chart.vars (got x1)),.own 64 .stat (Chart.states (got x1)),.own 68 .tran (Chart.trans (got x1))] }))))) (.ret (.tup [.agg [.pd (.str c.name),.own 0,.own 1,.own 2,.own 3],.i 0,.i 0]) (zXr3 c))) ?_
 conv=>zeta
 exact ⟨fun h=>absurd (of_decide_eq_true h) (by omega),fun _=>CpQ.yes (hF.done hk) rfl rfl⟩
theorem L7:∀ (n k:Nat) (c:Chart),ls.length - k≤n→hG s ls c k→J Tryz.prog 9 (az Tryz.f9) Γ (CpQ s) zXr1 ((zXr2 k c ls)):=by
 intro n
 induction n with
 | zero=>intro k c hn hF; exact EM s ls c k Γ hF (by omega)
 | succ n ih =>
   intro k c hn hF
   by_cases hk:k<ls.length
   · have hl6:=hF.len
     have hw:IntKind.wrap .i64 ((k:Int)+1)=((k+1:Nat):Int):=cU (by omega)
     have hn1:(((k+1:Nat):Int) - 1).toNat=k:=by omega
     have hf:Fit c 6001:=hF.2.2.2.1.le (by omega)
     have hll:=hF.line hk
     cases hb:(cd c k (ETy.get .str ls k)).isSome
     · refine jg Hz Tryz.func9 (let x1:=(Value.slice none 0 0); let x2:=(IntKind.wrap .i64 ((k:Int)+1)); .ite (decide ((k:Int)<(ls.length:Int))) (.need (inRg k ls.length) (.need (k<ls.length) (.need (Fit c 6001∧(ETy.get .str ls k).length≤6000∧(1:Int)≤IntKind.wrap .i64 ((k:Int)+1)∧Option.isSome (cd c ((IntKind.wrap .i64 ((k:Int)+1) - (1:Int)).toNat) (ETy.get .str ls k))=false) (.ite true (.ret (.tup [.agg [.pd (.str []),.pd (.v x1),.pd (.v x1),.pd (.v x1),.pd (.v x1)],.i x2,.i 1]) []) (.stop zXr1 { n:=33,fr:=[(2,.x (.c (.loc 0 0))),(3,.i 0),(4,.i 0),(5,.x (.c (.loc 1 0))),(6,.x (.c (.own 2))),(7,.i x2)],ck:=[.cells [.pd (.str []),.pd (.v x1),.pd (.v x1),.pd (.v x1),.pd (.v x1)] 27,.dead,.own 9 .str ls] }))))) (.ret (.tup [.agg [.pd (.str c.name),.own 0,.own 1,.own 2,.own 3],.i 0,.i 0]) (zXr3 c))) ?_
       conv=>zeta
       refine ⟨fun _=>⟨⟨by omega,by omega⟩,hk,⟨hf,hll,by rw [hw]; omega,?_⟩,fun _=>hF.bad hk (uH hb),fun x=>Bool.noConfusion x⟩,fun h=>absurd (of_decide_eq_false h) (by omega)⟩
       rw [hw,hn1]; exact hb
     · refine jg vN Tryz.func9 (let x1:=(cd c ((IntKind.wrap .i64 ((k:Int)+1) - (1:Int)).toNat) (ETy.get .str ls k)); let x2:=(Value.slice none 0 0); let x3:=(IntKind.wrap .i64 ((k:Int)+1)); .ite (decide ((k:Int)<(ls.length:Int))) (.need (inRg k ls.length) (.need (k<ls.length) (.need (Fit c 6001∧(ETy.get .str ls k).length≤6000∧(1:Int)≤IntKind.wrap .i64 ((k:Int)+1)∧Option.isSome x1=true) (.ite false (.ret (.tup [.agg [.pd (.str []),.pd (.v x2),.pd (.v x2),.pd (.v x2),.pd (.v x2)],.i x3,.i 1]) []) (.stop zXr1 { n:=33,fr:=[(2,.x (.c (.loc 0 0))),(3,.i 0),(4,.i 0),(5,.x (.c (.loc 1 0))),(6,.x (.c (.own 2))),(7,.i x3)],ck:=[.cells [.pd (.str []),.pd (.v x2),.pd (.v x2),.pd (.v x2),.pd (.v x2)] 27,.cells [.pd (.str (Chart.name (got x1))),.own 3,.own 4,.own 5,.own 6] 27,.own 9 .str ls,.own 9 .str (Chart.events (got x1)),.own 61 .var (Chart.vars (got x1)),.own 64 .stat (Chart.states (got x1)),.own 68 .tran (Chart.trans (got x1))] }))))) (.ret (.tup [.agg [.pd (.str c.name),.own 0,.own 1,.own 2,.own 3],.i 0,.i 0]) (zXr3 c))) ?_
       conv=>zeta
       refine ⟨fun _=>⟨⟨by omega,by omega⟩,hk,⟨hf,hll,by rw [hw]; omega,?_⟩,fun x=>Bool.noConfusion x,fun _=>?_⟩,fun h=>absurd (of_decide_eq_false h) (by omega)⟩
       · rw [hw,hn1]; exact hb
       · rw [hw,hn1]
         exact ih (k+1) (got (cd c k (ETy.get .str ls k))) (by omega) (hF.next hk (pI hb))
   · exact EM s ls c k Γ hF hk
theorem yS:J Tryz.prog 9 (az Tryz.f9) Γ (CpQ s) [.code []] (bX Tryz.f9.ntmps [.s s] []):=by
 refine jg IK Tryz.func9 (let x1:=(Value.slice none 0 0); .ite (decide (ab s>(6000:Int))) (.ret (.tup [.agg [.pd (.str []),.pd (.v x1),.pd (.v x1),.pd (.v x1),.pd (.v x1)],.i 0,.i 4]) []) (.need (s.length≤1000000) (.stop zXr1 { n:=33,fr:=[(2,.x (.c (.loc 0 0))),(3,.i 0),(4,.i 0),(5,.x (.c (.loc 1 0))),(6,.x (.c (.own 2))),(7,.i 0)],ck:=[.cells [.pd (.str []),.pd (.v x1),.pd (.v x1),.pd (.v x1),.pd (.v x1)] 27,.cells [.pd (.str []),.pd (.v x1),.pd (.v x1),.pd (.v x1),.pd (.v x1)] 27,.own 9 .str (dj s)] }))) ?_
 conv=>zeta
 have hL:ab s=(s.length:Int):=rfl
 refine ⟨fun h=>CpQ.no ?_ (by decide),fun h=>?_⟩
 · have:=of_decide_eq_true h
   rw [bm,if_pos (by omega)]
 · have h':=of_decide_eq_false h
   have hs:s.length≤6000:=by omega
   refine ⟨by omega,?_⟩
   refine J.nilCk 1 1 9 .str rfl rfl (by kernel_rfl) ?_
   refine J.nilCk 1 2 61 .var rfl rfl (by kernel_rfl) ?_
   refine J.nilCk 1 3 64 .stat rfl rfl (by kernel_rfl) ?_
   refine J.nilCk 1 4 68 .tran rfl rfl (by kernel_rfl) ?_
   exact L7 s (dj s) Γ (dj s).length 0 eJ (by omega) ⟨hs,rfl,rfl,Fit.zero,bJ _⟩
theorem FF (h:gy s):ak Tryz.prog 9 [.s s] [] (.tup [.agg [.pd (.str (bm s).1.name),.own 0,.own 1,.own 2,.own 3],.i 0,.i 0]) [.own 9 .str (bm s).1.events,.own 61 .var (bm s).1.vars,.own 64 .stat (bm s).1.states,.own 68 .tran (bm s).1.trans] :=
 ak.of Tryz.func9 (by kernel_rfl) (by kernel_rfl) fun Γ=>J.mono (fun v ck hq=>hq.1 h) (yS s Γ)
theorem Hq (h:¬gy s):ak Tryz.prog 9 [.s s] [] (.tup [.agg [.pd (.str []),.pd (.v (.slice none 0 0)),.pd (.v (.slice none 0 0)),.pd (.v (.slice none 0 0)),.pd (.v (.slice none 0 0))],.i (bm s).2.1,.i (bm s).2.2]) [] :=
 ak.of Tryz.func9 (by kernel_rfl) (by kernel_rfl) fun Γ=>J.mono (fun v ck hq=>hq.2 h) (yS s Γ)
noncomputable def EB:Ent:=(9,fun
 | [.c (.pd (.str s))],[]=>some (some (gy s),.tup [.agg [.pd (.str (bm s).1.name),.own 0,.own 1,.own 2,.own 3],.c (.pd (.int .i64 0)),.c (.pd (.int .i64 0))],[.own 9 .str (bm s).1.events,.own 61 .var (bm s).1.vars,.own 64 .stat (bm s).1.states,.own 68 .tran (bm s).1.trans])
 | _,_=>none)
theorem Lw:EntOk Tryz.prog EB:=entOk fun vs ck=>by
 unfold EB; dsimp only; split
 · rename_i s; exact entS fun hp=>FF s hp
 · exact entN
noncomputable def B5:Ent:=(9,fun
 | [.c (.pd (.str s))],[]=>some (some (¬gy s),.tup [.agg [.pd (.str []),.pd (.v (.slice none 0 0)),.pd (.v (.slice none 0 0)),.pd (.v (.slice none 0 0)),.pd (.v (.slice none 0 0))],.c (.pd (.int .i64 (bm s).2.1)),.c (.pd (.int .i64 (bm s).2.2))],[])
 | _,_=>none)
theorem ME:EntOk Tryz.prog B5:=entOk fun vs ck=>by
 unfold B5; dsimp only; split
 · rename_i s; exact entS fun hp=>Hq s hp
 · exact entN
end Go.Proofs.YtpfidgnkokidoaaGreatDoor
namespace Go.Proofs.YtpfidgnkokidoaaGreatDoor
open Go Go.Ev
set_option maxRecDepth 100000
def ShQ (c:Chart):Out:=fun v ck=>(okC c→v = .tup [.s (DD c),.i 0]∧ck=[])∧(¬okC c→v = .tup [.s [],.i 1]∧ck=[])
theorem ShQ.no {c:Chart} (h:¬okC c) {v:SV} {ck:List Chunk} (hv:v = .tup [.s [],.i 1]) (hc:ck=[]):ShQ c v ck:=⟨fun k=>absurd k h,fun _=>⟨hv,hc⟩⟩
theorem ShQ.yes {c:Chart} (h:okC c) {v:SV} {ck:List Chunk} (hv:v = .tup [.s (DD c),.i 0]) (hc:ck=[]):ShQ c v ck:=⟨fun _=>⟨hv,hc⟩,fun k=>absurd h k⟩
/-! ### sizes -/
/-! ### the walk -/
end Go.Proofs.YtpfidgnkokidoaaGreatDoor
namespace Go.Proofs.YtpfidgnkokidoaaGreatDoor
open Go Go.Ev
set_option maxRecDepth 100000
theorem ak.sub {P:Program} {f:FuncId} {args args':List SX} {ck ck':List Chunk} {ret:SV} (h:∀ (V:Vn) (vs:List Value),All2 (SX.R V) args vs→All2 (SX.R V) args' vs) (d:ak P f args' ck ret ck'):ak P f args ck ret ck' :=
 fun w V vs hw hT hv=>d w V vs hw hT (h V vs hv)
theorem l6 {H:Mem} {t:ETy} {u:Value} (h:PR H (.v (.slice none 0 0)) u):PR H (.lst t []) u:=by
 cases h; exact .emp t none 0 (fun _=>rfl)
theorem tE {V:Vn} {a:Str} {u:Value} (h:SX.R V (.agg [.pd (.str a),.pd (.v (.slice none 0 0)),.pd (.v (.slice none 0 0)),.pd (.v (.slice none 0 0)),.pd (.v (.slice none 0 0))]) u):SX.R V (.e .chart ⟨a,[],[],[],[]⟩) u:=by
 obtain ⟨us,e,hu⟩:=h
 refine ⟨us,e,?_⟩
 cases hu with | cons h0 hu=>cases hu with | cons h1 hu=>cases hu with | cons h2 hu=>cases hu with | cons h3 hu=>cases hu with | cons h4 hu =>
  cases hu
  exact .cons h0 (.cons (l6 h1) (.cons (l6 h2) (.cons (l6 h3) (.cons (l6 h4) .nil))))
theorem Ew (a:Str):SmallC ⟨a,[],[],[],[]⟩:=⟨by simp,by simp,by simp,by simp,by simp,by simp⟩
theorem Dd (a b:Str):ak Tryz.prog 11 [.agg [.pd (.str a),.pd (.v (.slice none 0 0)),.pd (.v (.slice none 0 0)),.pd (.v (.slice none 0 0)),.pd (.v (.slice none 0 0))],.agg [.pd (.str b),.pd (.v (.slice none 0 0)),.pd (.v (.slice none 0 0)),.pd (.v (.slice none 0 0)),.pd (.v (.slice none 0 0))]] [] (.x (.b (iL ⟨a,[],[],[],[]⟩ ⟨b,[],[],[],[]⟩))) [] :=
 ak.sub (fun V vs hv=>by
  cases hv with | cons h1 hv=>cases hv with | cons h2 hv =>
   cases hv
   exact .cons (tE h1) (.cons (tE h2) .nil)) (sH ⟨a,[],[],[],[]⟩ ⟨b,[],[],[],[]⟩ (Ew a))
def qp:Ent:=(11,fun
 | [.agg [.pd (.str a),.pd (.v (.slice none 0 0)),.pd (.v (.slice none 0 0)),.pd (.v (.slice none 0 0)),.pd (.v (.slice none 0 0))],.agg [.pd (.str b),.pd (.v (.slice none 0 0)),.pd (.v (.slice none 0 0)),.pd (.v (.slice none 0 0)),.pd (.v (.slice none 0 0))]],[]=>some (none,.x (.c (.pd (.bool (iL ⟨a,[],[],[],[]⟩ ⟨b,[],[],[],[]⟩)))),[])
 | _,_=>none)
theorem CU:EntOk Tryz.prog qp:=entOk fun vs ck=>by
 unfold qp; dsimp only; split
 · rename_i a b; exact entS fun hp=>Dd a b
 · exact entN
/-! ### copies -/
end Go.Proofs.YtpfidgnkokidoaaGreatDoor
namespace Go.Proofs.YtpfidgnkokidoaaGreatDoor
open Go Go.Ev
set_option maxRecDepth 100000
/-! ### what is read is small -/
/-! ### ChartParses -/
noncomputable def Gv:Cfg:=⟨a6,[CZ,EB,pP,sX]⟩
theorem FT:ah Tryz.prog Gv.tab:=(ah.cons Mp (ah.cons Lw (ah.cons vw (ah.cons Ha ah.nil))))
noncomputable def Hi:Cfg:=⟨a6,[Dp,B5,pP,qp]⟩
theorem HA:ah Tryz.prog Hi.tab:=(ah.cons MQ (ah.cons ME (ah.cons vw (ah.cons CU ah.nil))))
theorem sK (s:Str):ak Tryz.prog 3 [.s s] [] (.x (.b true)) []:=by
 by_cases h:gy s
 · refine dg FT Tryz.func3 (.need (gy s) (.need (gy s) (.need (true=true→SmallC ((bm s).1)) (.ret (.p (.bool (true&&iL ((bm s).1) ((bm s).1)&&(0:Int)==0&&(0:Int)==0))) [])))) fun Γ=>?_
   refine ⟨h,h,fun _=>AY s,?_,rfl⟩
   show SV.x (.b (true&&iL (bm s).1 (bm s).1&&(0:Int)==0&&(0:Int)==0))=_
   rw [Cu]; rfl
 · refine dg HA Tryz.func3 (.need (¬gy s) (.need (¬gy s) (.ret (.p (.bool (true&&true&&((bm s).2).1==((bm s).2).1&&((bm s).2).2==((bm s).2).2))) []))) fun Γ=>?_
   refine ⟨h,h,?_,rfl⟩
   simp
/-! ### ChartPrefix -/
/-! ### ChartNormal -/
/-! ### ChartBack -/
end Go.Proofs.YtpfidgnkokidoaaGreatDoor
namespace Go.Ev
open Go.RowKit Go.ChangeShapes Go.WideShapes
def HW (W:World):Mem:=fun k=>W.heap[k]?
def VW (W:World):Vn:=⟨HW W,fun _=>0,fun _=>undef⟩
theorem Fb (W:World):WOk (entry [] (VW W) W) [] (VW W) W where
 ext:=Fr.refl _ _
 imm:=fun _ _ h=>h
 hle:=HLe.refl _
 frz:=fun _ h=>.inl h
 agr:=fun i hi=>absurd hi (Nat.not_lt_zero _)
 own:=fun i c h=>by simp at h
 base:=fun i c b h=>by simp at h
 inj:=fun i j c d b h=>by simp at h
theorem ak.law {P:Program} {f:FuncId} {args:List SX} {b:Bool} (h:ak P f args [] (.x (.c (.pd (.bool b)))) []) {W:World} (hT:kG P (HW W)) {vs:List Value} (hvs:All2 (SX.R (VW W)) args vs) :
 Calls P f vs.toArray W (fun e W'=>e = .returned (.bool b)∧Below W.heap.size W W'):=by
 refine (h W (VW W) vs (Fb W) hT hvs).mono fun e W' hp=>?_
 obtain ⟨v,V',rfl,hr,hw⟩:=hp
 have hr':PR V'.H (.bool b) v:=hr
 cases hr'
 refine ⟨rfl,hw.ext.os,hw.ext.tape,hw.ext.output,hw.ext.size,fun k hk=>hw.ext.block k hk ?_⟩
 rintro ⟨i,c,hc,_⟩
 simp [entry] at hc
section
variable {Hh:Type} {enc:TypeId×Value→Hh} {P:Program} {W:World} {base:Nat} {spare:Nat→Bool} {held:Bool}
end
section
variable {Hh:Type} {enc:TypeId×Value→Hh} {P:Program} {W W':World}
theorem oH (hl:laidOutB P=true) (hb:Below W.heap.size W W'):∀ {ts:List TypeId} {vs:List Value} {ds:List (DataW Hh)} {p:List MemPlace},(∀ t∈ts,P.readableRec t=true∧t<P.types.size)→(∀ x∈p,x.block<W.heap.size) →
 DataW.TrodAll enc P W 0 (fun _=>true) true ts vs ds p→DataW.TrodAll enc P W' 0 (fun b=>decide (b<W.heap.size)) true ts vs ds p
 | [],_,_,_,_,_,h=>by
   obtain ⟨rfl,rfl,rfl⟩:=trodAll_nil h
   rfl
 | t::ts,_,_,_,hr,hp,h=>by
   obtain ⟨v,vs,d,ds,a,b,rfl,rfl,rfl,h1,h2⟩:=trodAll_cons h
   exact ⟨a,b,Below.trod hl (hr t aU).1 (hr t aU).2 h1 hb (fun x hx=>hp x (dM _ hx)),
    oH hl hb (fun u hu=>hr u (aX _ hu)) (fun x hx=>hp x (dJ _ hx)) h2,rfl⟩
theorem Ij {f:Func} {s:ChangeSpec} {tb:TypeId} {args:Array Value} {ds gs:List (DataW Hh)} {before:List MemPlace} (hl:laidOutB P=true) (hrt:f.resultTypes.toList=[tb]) (hsz:f.resultTypes.size=1) (htb:P.underlying tb=some .bool) (hvars:s.vars=[])
 (hfn:(s.fn Hh ds).results=[.lit (.bool true)]∧(s.fn Hh ds).args=ds∧(s.fn Hh ds).vars=[]) (hpar:∀ t∈f.params.toList,P.readableRec t=true∧t<P.types.size)
 (hW:DataW.Whole enc P f.params.toList s.vars false W args.toList ds gs before) (hb:Below W.heap.size W W'):s.post enc P f false true false false W args (.bool true) W':=by
 have hW':=hW
 obtain ⟨p,q,hA,hV,rfl,hfz,hnd⟩:=hW
 rw [hvars] at hV
 obtain ⟨rfl,rfl⟩:=trodVars_none hV
 rw [bZ] at hW' hfz
 have hlt:∀ x∈p,x.block<W.heap.size:=fun x hx=>by simpa using hW'.lt x hx
 refine ⟨ds,[],p,[],p,[],hW',?_,?_,?_,?_,fun h=>Bool.noConfusion h⟩
 · rw [bZ,hfn.1,hrt,hsz]
   exact trodAll_mk1 (shut_bool htb _)
 · rw [bZ,hfn.2.1]
   exact oH hl hb hpar hlt hA
 · rw [bZ,hfn.2.2,hvars]
   rfl
 · exact World.keptBut_mono (fun x hx=>⟨hx,.inr (.inl hx)⟩) (hb.frame _)
end
end Go.Ev
namespace Go.Proofs.YtpfidgnkokidoaaGreatDoor
open Go Go.Ev Go.RowKit Go.ChangeShapes Go.WideShapes Go.ChangeAt
set_option maxRecDepth 100000
theorem own:ownKnob Tryz.prog.godebug=none:=by kernel_rfl
theorem laidOut:laidOutB Tryz.prog=true:=by kernel_rfl
theorem BL {P:Program} {W:World} {name:String} {cs:Array Value} (h:W.var? P name=some cs):pR P (HW W) name cs:=by
 unfold World.var? at h
 cases hg:P.globalNamed name with
 | none=>rw [hg] at h; simp at h
 | some g =>
   rw [hg] at h
   simp only [fM] at h
   split at h
   · rename_i c e fr hb
     simp only [aa] at h
     subst h
     exact ⟨g,e,fr,hg,hb⟩
   · cases h
abbrev vP:ByteArray:=⟨#[118,97,108,117,101,32,111,117,116,32,111,102,32,114,97,110,103,101]⟩
abbrev sW:ByteArray:=⟨#[105,110,118,97,108,105,100,32,115,121,110,116,97,120]⟩
theorem MX (u:TypeId) (h:Tryz.prog.typeName? 3 u=some "*errors.errorString"):u=250 :=
 typeName_ptr_named (nm:="errors.errorString") (by rw [show ("*"++"errors.errorString":String)="*errors.errorString" by kernel_rfl]; kernel_rfl) (by kernel_rfl) (by decide) u (by rw [show ("*"++"errors.errorString":String)="*errors.errorString" by kernel_rfl]; exact h)
theorem Bl {W:World} {n:String} {text:List UInt8} {l:List (String×DataW Unit)} (h:laidMetH Tryz.prog l W) (e:(l.filter fun x=>x.1==n)=[(n,.iface "*errors.errorString" (.ptr (.agg [.lit (.string text)])))]) (ht:(Tryz.prog.globals[(Tryz.prog.globalNamed n).getD 0]?).map (·.type)=some 75) (hg:(Tryz.prog.globalNamed n).isSome=true):J5 Tryz.prog (HW W) n:=fun _=>by
 have h1:=laidMetH.filter (fun x=>x.1==n) h
 rw [e,MakeChecks.laidMetH_plain _ _ _ (by rfl)] at h1
 obtain ⟨g,hg⟩:=cC.1 hg
 rw [hg] at ht
 obtain ⟨a0,s0,hv0, -, -, -⟩:=laid_sentinel h1 hg ht Tryz.underlying75 MX Tryz.underlying250 Tryz.underlying252 rfl rfl Tryz.underlying9 (by kernel_rfl) (by kernel_rfl)
 exact ⟨_,_,BL hv0⟩
theorem F8 {W:World} (h:W.ShapedOpen Tryz.prog):yx Tryz.prog (HW W) "internal/bytealg.MaxLen":=fun _=>by
 obtain ⟨m,hm⟩:∃ m,W.cell? ⟨0,0,none⟩=some (.int .i64 m):=Go.Proofs.cell_of_shapedOpen_int (zero:=#[.int .i64 0]) (t:=3) h (of_decide_eq_true (by kernel_rfl)) (by kernel_rfl) rfl (by kernel_rfl) (by kernel_rfl) Tryz.underlying3
 unfold World.cell? at hm
 split at hm
 · split at hm
   · cases hm
   · rename_i cs e fr hb _
     exact ⟨0,cs,e,fr,m,by kernel_rfl,hb,hm⟩
 · cases hm
theorem Ow {W:World} (h:laidMetH Tryz.prog Rows.chartParsesRow.laid W) (hs:W.ShapedOpen Tryz.prog):kG Tryz.prog (HW W):=by
 refine ⟨fun _=>?_,Bl (text:=sW.data.toList) h (by kernel_rfl) (by kernel_rfl) (by kernel_rfl),Bl (text:=vP.data.toList) h (by kernel_rfl) (by kernel_rfl) (by kernel_rfl),F8 hs⟩
 have h1:=laidMetH.filter (fun x=>x.1=="internal/strconv.uint64pow10") h
 have e:(Rows.chartParsesRow.laid.filter fun x=>x.1=="internal/strconv.uint64pow10")=[("internal/strconv.uint64pow10",Lib.tabData .u64 Lib.pow10Tab)]:=by kernel_rfl
 rw [e] at h1
 have ht:(Tryz.prog.globals[(Tryz.prog.globalNamed "internal/strconv.uint64pow10").getD 0]?).map (·.type)=some 240:=by kernel_rfl
 exact BL (Lib.tabIs_of_head (rest:=[]) (g:=(Tryz.prog.globalNamed "internal/strconv.uint64pow10").getD 0) (by kernel_rfl) ht Tryz.underlying240 Tryz.underlying182 (by kernel_rfl) (by kernel_rfl) h1)
noncomputable def MC:DataW Unit→List Value
 | .lit (.int k z)=>[Value.int k z]
 | .agg [.lit (.int k z),.lit (.int k' z')]=>[Value.int k z,Value.int k' z']
 | _=>[]
noncomputable def HI:DataW Unit→Array Value
 | .agg ds=>(ds.flatMap MC).toArray
 | _=>#[]
noncomputable def rD (name:String) (cs:Array Value) (heap:Array Obj):Array Obj:=heap.modify ((Tryz.prog.globalNamed name).getD 0) fun
 | .cells _ t frozen=>.cells cs t frozen
 | o=>o
noncomputable def pt (name:String) (d:DataW Unit) (heap:Array Obj):Array Obj:=rD name (HI d) heap
noncomputable def low:Nat:=(World.holding Tryz.prog default ⟨#[],#[],[]⟩).heap.size
noncomputable def FD (os:Os):World:=World.holding Tryz.prog os ⟨#[.cells #[.string vP] 252,.cells #[.string sW] 252],#[],[]⟩
noncomputable def pU (os:Os):World :=
 { FD os with heap:=rD "strconv.ErrRange" #[.iface 250 (.pointer (some ⟨low,0,none⟩))] (rD "strconv.ErrSyntax" #[.iface 250 (.pointer (some ⟨low+1,0,none⟩))] (pt "unicode/utf8.first" Rows.laid_unicode_utf8_first (pt "unicode/utf8.acceptRanges" Rows.laid_unicode_utf8_acceptRanges (pt "internal/strconv.uint64pow10" Rows.laid_internal_strconv_uint64pow10 (pt "math/bits.deBruijn64tab" Rows.laid_math_bits_deBruijn64tab (pt "math/bits.deBruijn32tab" Rows.laid_math_bits_deBruijn32tab (FD os).heap)))))) }
theorem MU {Hh:Type} {enc:TypeId×Value→Hh} {W:World} {base:Nat} {spare:Nat→Bool} {held:Bool} {v:Value} {d:DataW Hh} {ps:List MemPlace} {b0:Nat} (h:DataW.Trod enc Tryz.prog W base spare held 9 v d ps) (hv:Value.okWide Tryz.prog W .any b0 9 v) :
 ∃ s:Str,SX.R (VW W) (.c (.pd (.str s))) v∧d = .lit (.string s):=by
 have hv':Cell.okWide Tryz.prog W .any b0 9 v:=by simpa only [Value.okWide,Tryz.underlying9] using hv
 obtain ⟨fuel,hf⟩:=h
 have hc:v.cells.toList=[v]:=by
  have hv2:=hv'
  simp only [Cell.okWide,Tryz.underlying9,Cell.ok] at hv2
  cases v <;> first | rfl | exact hv2.elim
 rw [hc] at hf
 obtain ⟨s,h1,h2⟩:=DataW.trod_string Tryz.underlying9 hf
 simp only [fU,and_true] at h1
 subst h1
 refine ⟨s.data.toList,?_,?_⟩
 · have:PR (HW W) (.str s.data.toList) (.string (bs s.data.toList)):=.str _
   rw [kj] at this
   exact this
 · exact congrArg Prod.fst h2.1
end Go.Proofs.YtpfidgnkokidoaaGreatDoor
