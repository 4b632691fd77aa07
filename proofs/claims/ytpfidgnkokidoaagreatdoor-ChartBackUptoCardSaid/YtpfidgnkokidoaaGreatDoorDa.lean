/- An executor for function bodies of the model over data, part PR: how a contract is proved, and the rules where the executor stops. Conditions: each rule's own. From a call's contract to a law's row: arguments opened, the row shut. Conditions: each theorem's own. From a row that lists the library's tables to what the walks ask; a world for the witness. Conditions: none. Plain functions: names, cells, kinds. Conditions: none. -/
import Derived.Test.YtpfidgnkokidoaaGreatDoorPQ
import Derived.ProofKit
import Derived.Deep.Slices
import Derived.SizedLaws
import Derived.Test.YtpfidgnkokidoaaGreatDoorCards
import Derived.Test.YtpfidgnkokidoaaGreatDoorTie
import Derived.Deep.DeepHandedRow
import Derived.Lib.LaidTab
import Derived.LaidSub
import Derived.Stop.LaidErr
import Derived.MakeChecks
import Derived.Shelf.Vars
import Derived.Test.YtpfidgnkokidoaaGreatDoorRows
namespace Go.Ev
open Go.RowKit
/-! ### short forms -/
abbrev SX.p (p:PD):SX:=.c (.pd p)
abbrev SX.i (n:Int):SX:=.c (.pd (.int .i64 n))
abbrev SX.b (b:Bool):SX:=.c (.pd (.bool b))
abbrev SX.s (s:Str):SX:=.c (.pd (.str s))
abbrev SX.l (t:ETy) (l:List t.den):SX:=.c (.pd (.lst t l))
abbrev SX.e (t:ETy) (x:t.den):SX:=.agg ((t.enc x).map .pd)
abbrev aI (fn:Func):Code:=fn.body.getD .skip
theorem lF {fn:Func} (h:fn.body.isSome=true):fn.body=some (aI fn):=by
 unfold aI; cases hb:fn.body <;> simp_all
theorem cG {n:Int} (h0 : -9223372036854775808≤n) (h1:n≤9223372036854775807):IntKind.wrap .i64 n=n:=by
 unfold IntKind.wrap
 simp only [IntKind.bits,IntKind.signed]
 simp
 omega
theorem ee {k:Nat} (h:k<9223372036854775807):IntKind.wrap .i64 ((k:Int)+1)=((k+1:Nat):Int):=by
 rw [cG (by omega) (by omega)]; omega
/-! ### a call's beginning -/
def tW:List SX→Nat→List (Nat×SV)
 | [],_=>[]
 | v::r,i=>(i,.x v)::tW r (i+1)
def cN (n:Nat) (vs:List SX) (ck:List Chunk):ST:={ n:=n,fr:=tW vs 0,ck:=ck,m:=ck.length }
theorem vZ:∀ {vs:List SX} {i t:Nat} {sv:SV},(t,sv)∈tW vs i→∃ v,sv = .x v∧i≤t∧vs[t - i]?=some v
 | [],_,_,_,h=>by simp [tW] at h
 | v :: r,i,t,sv,h=>by
   rcases aO.1 h with h | h
   · simp only [ae] at h; obtain ⟨rfl,rfl⟩:=h; exact ⟨v,rfl,av _,by simp⟩
   · obtain ⟨u,h1,h2,h3⟩:=vZ h
     exact ⟨u,h1,by omega,by rw [show t - i=(t - (i+1))+1 from by omega,List.getElem?_cons_succ]; exact h3⟩
def Eq2 (ret:SV) (ck':List Chunk):Out:=fun v ck=>v=ret∧ck=ck'
theorem kE {P:Program} {f:FuncId} {fn:Func} {root:Code} {args:List SX} {ck:List Chunk} {Q:Out} (hf:P.funcs[f]?=some fn) (hb:fn.body=some root) (hn:Nat.ble args.length fn.ntmps=true) {Γ:Ctx} (hm:Γ.m=ck.length)
 (h:J P f root Γ Q [.code []] (cN fn.ntmps args ck)) {w:World} {V:Vn} {vs:List Value} (hw:WOk Γ ck V w) (hT:lJ P Γ.H0) (hv:All2 (SX.R V) args vs):Calls P f vs.toArray w (yT Γ Q):=by
 refine Go.Sy.calls_of_fin hf hb ?_
 have hn':=aB hn
 have hl:=hv.length
 refine h hT V _ w { size:=?_,defers:=rfl,slots:=?_,wok:=hw,few:=⟨by rw [hm]; exact av _,av _⟩ }
 · simp [cN]; omega
 · intro t sv hm
   obtain ⟨v,rfl,_,h2⟩:=vZ hm
   simp only [Nat.sub_zero] at h2
   obtain ⟨u,h3,h4⟩:=hv.get h2
   have ht:t<vs.length:=(List.getElem?_eq_some_iff.1 h3).1
   show v.R V ((vs.toArray++Array.replicate (fn.ntmps - vs.toArray.size) undef).getD t undef)
   rw [Array.getD_eq_getD_getElem?,Array.getElem?_append_left (by simpa using ht)]
   simpa [h3] using h4
theorem ak.of {P:Program} {f:FuncId} {fn:Func} {args:List SX} {ck:List Chunk} {ret:SV} {ck':List Chunk} (hf:P.funcs[f]?=some fn) (hb:fn.body.isSome=true) (hn:Nat.ble args.length fn.ntmps=true)
 (h:∀ Γ,J P f (aI fn) Γ (Eq2 ret ck') [.code []] (cN fn.ntmps args ck)):ak P f args ck ret ck':=by
 intro w V vs hw hT hv
 refine (kE hf (lF hb) hn (Γ:=entry ck V w) rfl (h _) hw hT hv).mono fun e w' hq=>?_
 obtain ⟨v,V',r,c,rfl,⟨rfl,rfl⟩,h1,h2⟩:=hq
 exact ⟨v,V',rfl,h1,h2⟩
section
variable {P:Program} {cfg:Cfg} {f:FuncId} {fn:Func} {root:Code} {Γ:Ctx} {Q:Out} {st st':ST} {todo:List PI}
theorem J.go (ht:ai P cfg.tab) (hf:P.funcs[f]?=some fn) (n:Nat) {t:Tree} (he:exec P cfg fn root n todo st=t) (h:t.J P f root Γ Q):J P f root Γ Q todo st :=
 dW ht hf n todo st (he ▸ h)
theorem ak.go {args:List SX} {ck:List Chunk} {ret:SV} {ck':List Chunk} (ht:ai P cfg.tab) (hf:P.funcs[f]?=some fn) (hb:fn.body.isSome=true) (hn:Nat.ble args.length fn.ntmps=true) {t:Tree}
 (he:exec P cfg fn (aI fn) 1000 [.code []] (cN fn.ntmps args ck)=t) (h:∀ Γ,t.J P f (aI fn) Γ (Eq2 ret ck')):ak P f args ck ret ck' :=
 ak.of hf hb hn fun Γ=>J.go ht hf 1000 he (h Γ)
theorem J.kn (l:List Nat) (h:J P f root Γ Q todo { st with kn:=l }):J P f root Γ Q todo st :=
 fun hT V a w r=>h hT V a w ⟨r.1,r.2,r.3,r.4,r.5⟩
theorem J.wanted (ht:ai P cfg.tab) {p:List Nat} {i j d:Nat} {k:List PI} {o:Oper} {want:Bool} (ho:(opsOf (sub root p))[i]?=some o) (hg:o.guard=some (j,want)) (hs:((opsOf (sub root p))[j]?).bind (·.dst)=some d)
 (hb:lookup st.fr d=some (.x (.c (.pd (.bool want))))) {q:Option Prop} (h:ru P cfg o st=some (q,st')) (hq:Holds q) (hk:J P f root Γ Q (.ops p (i+1)::k) st'):J P f root Γ Q (.ops p i::k) st:=by
 intro hT V a w r
 have hon:a.tmps.getD d undef = .bool want:=by
  have:=r.slots d _ (dF hb)
  have h2:SX.R V (.c (.pd (.bool want))) (a.tmps.getD d undef):=this
  generalize a.tmps.getD d undef=u at h2 ⊢
  cases h2; rfl
 have hi:i<(opsOf (sub root p)).size:=(Array.getElem?_eq_some_iff.1 ho).1
 have hsz:(opsOf (sub root p)).size - i=((opsOf (sub root p)).size - (i+1))+1:=by omega
 simp only [aw,PI.den]
 rw [hsz,cw]
 exact ki ⟨ht,hT⟩ r ho (lD hg hs hon) h hq fun V' a' w' r'=>hk hT V' a' w' r'
def xG (P:Program) (cfg:Cfg) (root:Code) (p:List Nat) (i:Nat) (st:ST):Option (Option Prop×ST) :=
 match (opsOf (sub root p))[i]? with
 | some o=>match o.guard with
   | some (j,want)=>match ((opsOf (sub root p))[j]?).bind (·.dst) with
     | some d=>match lookup st.fr d with
       | some (.x (.c (.pd (.bool true))))=>match want with
         | true=>ru P cfg o st
         | false=>none
       | _=>none
     | none=>none
   | none=>none
 | none=>none
theorem J.run (ht:ai P cfg.tab) {p:List Nat} {i:Nat} {k:List PI} {q:Option Prop} (h:xG P cfg root p i st=some (q,st')) (hq:Holds q) (hk:J P f root Γ Q (.ops p (i+1)::k) st'):J P f root Γ Q (.ops p i::k) st:=by
 unfold xG at h
 split at h
 · rename_i o ho
   split at h
   · rename_i j want hg
     split at h
     · rename_i d hd
       split at h
       · rename_i hb
         split at h
         · exact J.wanted ht ho hg hd hb h hq hk
         · cases h
       · cases h
     · cases h
   · cases h
 · cases h
theorem J.eq (h:st=st') (hk:J P f root Γ Q todo st'):J P f root Γ Q todo st:=h ▸ hk
theorem J.mono {Q':Out} (h:∀ v ck,Q' v ck→Q v ck) (hk:J P f root Γ Q' todo st):J P f root Γ Q todo st:=by
 intro hT V a w r b cs hb hkd
 obtain ⟨e,w',fr,hq,h1,h2,h3⟩:=hk hT V a w r b cs hb hkd
 obtain ⟨v,V',ret,ck',q1,q2,q3,q4⟩:=hq
 exact ⟨e,w',fr,⟨v,V',ret,ck',q1,h _ _ q2,q3,q4⟩,h1,h2,h3⟩
theorem J.nilOwn (d:Nat) (e:TypeId) (t:ETy) (hl:(match lookup st.fr d with | some (.x (.c (.pd (.v (.slice none 0 0)))))=>true | _=>false)=true) (hwf:st.wf=true)
 (hk:J P f root Γ Q todo { st with fr:=st.fr.map (fun p=>bif Nat.beq p.1 d then (p.1,.x (.c (.own st.ck.length))) else p),ck:=st.ck++[.own e t []] }):J P f root Γ Q todo st:=by
 intro hT V a w r
 have hnil:a.tmps.getD d undef = .slice none 0 0:=by
  split at hl
  · rename_i hlk
    have:=r.slots d _ (dF hlk)
    have h2:SX.R V (.c (.pd (.v (.slice none 0 0)))) (a.tmps.getD d undef):=this
    generalize a.tmps.getD d undef=u at h2 ⊢
    cases h2; rfl
  · cases hl
 have hwf2:iY st.ck=true:=by simp only [ST.wf,ab] at hwf; exact hwf.2
 obtain ⟨V',hag,_,_,e2,hw⟩:=r.wok.regrow hwf2 (ay r.few.1 r.few.2) none (c:=.own e t []) (v':=.slice none 0 0) (s':=0) (w':=w) (row:=none) (by simp) (World.grownBy.refl _ _) (fun V' hag hH f1 f2=>by
  refine ⟨⟨[],?_,.nil,fun b hb=>by rw [f2] at hb; simp [Value.ownBlock] at hb⟩,fun b hb=>by simp [Chunk.blk,f2,Value.ownBlock] at hb⟩
  rw [f2]; exact World.ownsRow_nil w 0 e t.size)
 refine hk hT V' a w { size:=r.size,defers:=r.defers,slots:=?_,wok:=hw,few:=⟨r.few.1,by show st.m≤(st.ck++[Chunk.own e t []]).length; rw [ag]; have:=r.few.2; omega⟩ }
 intro s sv hm
 obtain ⟨⟨s',sv'⟩,h5,h6⟩:=ba.1 hm
 simp only [ST.wf,ab] at hwf
 cases hb:Nat.beq s' d
 · rw [hb] at h6
   simp only [cond_false,ae] at h6
   obtain ⟨rfl,rfl⟩:=h6
   exact (r.slots _ _ h5).agree hag (al.1 hwf.1 _ h5)
 · rw [hb] at h6
   simp only [cond_true,ae] at h6
   obtain ⟨rfl,rfl⟩:=h6
   rw [aq hb]
   show _=V'.ov _
   rw [hnil,e2]
theorem J.freeze (tys:Tys) (l:List Nat) (hz:F2 tys st l=some st') (hk:J P f root Γ Q todo st'):J P f root Γ Q todo st:=by
 intro hT V a w r
 obtain ⟨V',r'⟩:=Ba r hz
 exact hk hT V' a w r'
theorem J.len (d:Nat) {t:ETy} {l:List t.den} (hl:lookup st.fr d=some (.x (.c (.pd (.lst t l))))) (hk:l.length≤maxLen→J P f root Γ Q todo st):J P f root Γ Q todo st:=by
 intro hT V a w r
 have h:PR V.H (.lst t l) (a.tmps.getD d undef):=r.slots d _ (dF hl)
 refine hk ?_ hT V a w r
 generalize a.tmps.getD d undef=u at h
 cases h with
 | emp _ ao cap h=>exact bt _
 | lst _ _ b off cap cells e fr hb hc hm hs h=>exact ay hc hm
theorem gR {k n:Nat} (h:k<n) (hn:n≤maxLen):k<9223372036854775807:=by unfold maxLen at hn; omega
end
/-! ### short forms for entries and runs -/
abbrev Ent:=Nat×(List SX→List Chunk→Option (Option Prop×SV×List Chunk))
abbrev EntOk (P:Program) (e:Ent):Prop:=∀ (vs:List SX) (ck:List Chunk) (p:Option Prop) (ret:SV) (ck':List Chunk),e.2 vs ck=some (p,ret,ck')→Holds p→ak P e.1 vs ck ret ck'
def EntP (P:Program) (f:Nat) (vs:List SX) (ck:List Chunk) (o:Option (Option Prop×SV×List Chunk)):Prop:=∀ (p:Option Prop) (ret:SV) (ck':List Chunk),o=some (p,ret,ck')→Holds p→ak P f vs ck ret ck'
theorem entN {P:Program} {f:Nat} {vs:List SX} {ck:List Chunk}:EntP P f vs ck none:=fun _ _ _ h=>by cases h
theorem entS {P:Program} {f:Nat} {vs:List SX} {ck:List Chunk} {p:Option Prop} {ret:SV} {ck':List Chunk} (h:Holds p→ak P f vs ck ret ck'):EntP P f vs ck (some (p,ret,ck')):=fun _ _ _ e hp=>by
 simp only [aa,ae] at e
 obtain ⟨rfl,rfl,rfl⟩:=e
 exact h hp
theorem entOk {P:Program} {e:Ent} (h:∀ vs ck,EntP P e.1 vs ck (e.2 vs ck)):EntOk P e:=fun vs ck _ _ _ he hp=>h vs ck _ _ _ he hp
abbrev inRg (k:Int) (n:Nat):Prop:=0≤k∧k<n
section
variable {P:Program} {cfg:Cfg} {f:FuncId} {fn:Func} {root:Code} {Γ:Ctx} {Q:Out} {st:ST} {todo:List PI}
theorem jg (ht:ai P cfg.tab) (hf:P.funcs[f]?=some fn) (t:Tree) (h:t.J P f root Γ Q) (he:exec P cfg fn root 1000 todo st=t:=by kernel_rfl):J P f root Γ Q todo st:=J.go ht hf 1000 he h
theorem dg {args:List SX} {ck:List Chunk} {ret:SV} {ck':List Chunk} (ht:ai P cfg.tab) (hf:P.funcs[f]?=some fn) (t:Tree) (h:∀ Γ,t.J P f (aI fn) Γ (Eq2 ret ck')) (he:exec P cfg fn (aI fn) 1000 [.code []] (cN fn.ntmps args ck)=t:=by kernel_rfl) (hb:fn.body.isSome=true:=by kernel_rfl) (hn:Nat.ble args.length fn.ntmps=true:=by kernel_rfl):ak P f args ck ret ck':=ak.go ht hf hb hn he h
end
end Go.Ev
namespace Go.Ev
open Go.RowKit Go.ChangeShapes Go.WideShapes
def HW (W:World):Mem:=fun k=>W.heap[k]?
def VW (W:World):Vn:=⟨HW W,fun _=>0,fun _=>undef⟩
theorem Ij (W:World):WOk (entry [] (VW W) W) [] (VW W) W where
 ext:=Fr.refl _ _
 imm:=fun _ _ h=>h
 hle:=HLe.refl _
 frz:=fun _ h=>.inl h
 agr:=fun i hi=>absurd hi (Nat.not_lt_zero _)
 own:=fun i c h=>by simp at h
 base:=fun i c b h=>by simp at h
 inj:=fun i j c d b h=>by simp at h
theorem ak.law {P:Program} {f:FuncId} {args:List SX} {b:Bool} (h:ak P f args [] (.x (.c (.pd (.bool b)))) []) {W:World} (hT:lJ P (HW W)) {vs:List Value} (hvs:All2 (SX.R (VW W)) args vs) :
 Calls P f vs.toArray W (fun e W'=>e = .returned (.bool b)∧Below W.heap.size W W'):=by
 refine (h W (VW W) vs (Ij W) hT hvs).mono fun e W' hp=>?_
 obtain ⟨v,V',rfl,hr,hw⟩:=hp
 have hr':PR V'.H (.bool b) v:=hr
 cases hr'
 refine ⟨rfl,hw.ext.os,hw.ext.tape,hw.ext.output,hw.ext.size,fun k hk=>hw.ext.block k hk ?_⟩
 rintro ⟨i,c,hc,_⟩
 simp [entry] at hc
section
variable {Hh:Type} {enc:TypeId×Value→Hh} {P:Program} {W:World} {base:Nat} {spare:Nat→Bool} {held:Bool}
theorem Ma {a:Addr} (hs:a.spot=none) {b off:Nat} (hb:a.block=b) (ho:a.off=off) {i:Nat} {u:Value} (h:W.cell? (a.add i)=some u):∃ cells e fr,W.heap[b]?=some (.cells cells e fr)∧cells[off+i]?=some u:=by
 obtain ⟨b',off',sp⟩:=a
 simp only at hs hb ho
 subst hs; subst hb; subst ho
 rw [addr_add] at h
 unfold World.cell? at h
 split at h
 · rename_i c e fr hb
   exact ⟨c,e,fr,hb,by simpa using h⟩
 · cases h
end
section
variable {Hh:Type} {enc:TypeId×Value→Hh} {P:Program} {W W':World}
theorem pQ (hl:laidOutB P=true) (hb:Below W.heap.size W W'):∀ {ts:List TypeId} {vs:List Value} {ds:List (DataW Hh)} {p:List MemPlace},(∀ t∈ts,P.readableRec t=true∧t<P.types.size)→(∀ x∈p,x.block<W.heap.size) →
 DataW.TrodAll enc P W 0 (fun _=>true) true ts vs ds p→DataW.TrodAll enc P W' 0 (fun b=>decide (b<W.heap.size)) true ts vs ds p
 | [],_,_,_,_,_,h=>by
   obtain ⟨rfl,rfl,rfl⟩:=trodAll_nil h
   rfl
 | t::ts,_,_,_,hr,hp,h=>by
   obtain ⟨v,vs,d,ds,a,b,rfl,rfl,rfl,h1,h2⟩:=trodAll_cons h
   exact ⟨a,b,Below.trod hl (hr t aA).1 (hr t aA).2 h1 hb (fun x hx=>hp x (dP _ hx)),
    pQ hl hb (fun u hu=>hr u (aE _ hu)) (fun x hx=>hp x (dK _ hx)) h2,rfl⟩
theorem JY {f:Func} {s:ChangeSpec} {tb:TypeId} {args:Array Value} {ds gs:List (DataW Hh)} {before:List MemPlace} (hl:laidOutB P=true) (hrt:f.resultTypes.toList=[tb]) (hsz:f.resultTypes.size=1) (htb:P.underlying tb=some .bool) (hvars:s.vars=[])
 (hfn:(s.fn Hh ds).results=[.lit (.bool true)]∧(s.fn Hh ds).args=ds∧(s.fn Hh ds).vars=[]) (hpar:∀ t∈f.params.toList,P.readableRec t=true∧t<P.types.size)
 (hW:DataW.Whole enc P f.params.toList s.vars false W args.toList ds gs before) (hb:Below W.heap.size W W'):s.post enc P f false true false false W args (.bool true) W':=by
 have hW':=hW
 obtain ⟨p,q,hA,hV,rfl,hfz,hnd⟩:=hW
 rw [hvars] at hV
 obtain ⟨rfl,rfl⟩:=trodVars_none hV
 rw [bu] at hW' hfz
 have hlt:∀ x∈p,x.block<W.heap.size:=fun x hx=>by simpa using hW'.lt x hx
 refine ⟨ds,[],p,[],p,[],hW',?_,?_,?_,?_,fun h=>Bool.noConfusion h⟩
 · rw [bu,hfn.1,hrt,hsz]
   exact trodAll_mk1 (shut_bool htb _)
 · rw [bu,hfn.2.1]
   exact pQ hl hb hpar hlt hA
 · rw [bu,hfn.2.2,hvars]
   rfl
 · exact World.keptBut_mono (fun x hx=>⟨hx,.inr (.inl hx)⟩) (hb.frame _)
end
end Go.Ev
namespace Go.Proofs.YtpfidgnkokidoaaGreatDoor
open Go Go.Ev Go.RowKit Go.ChangeShapes Go.WideShapes Go.ChangeAt
set_option maxRecDepth 100000
theorem own:ownKnob Tryz.prog.godebug=none:=by kernel_rfl
theorem laidOut:laidOutB Tryz.prog=true:=by kernel_rfl
theorem Da {P:Program} {W:World} {name:String} {cs:Array Value} (h:W.var? P name=some cs):qj P (HW W) name cs:=by
 unfold World.var? at h
 cases hg:P.globalNamed name with
 | none=>rw [hg] at h; simp at h
 | some g =>
   rw [hg] at h
   simp only [ga] at h
   split at h
   · rename_i c e fr hb
     simp only [aa] at h
     subst h
     exact ⟨g,e,fr,hg,hb⟩
   · cases h
abbrev ya:ByteArray:=⟨#[118,97,108,117,101,32,111,117,116,32,111,102,32,114,97,110,103,101]⟩
abbrev ue:ByteArray:=⟨#[105,110,118,97,108,105,100,32,115,121,110,116,97,120]⟩
theorem Od (u:TypeId) (h:Tryz.prog.typeName? 3 u=some "*errors.errorString"):u=250 :=
 typeName_ptr_named (nm:="errors.errorString") (by rw [show ("*"++"errors.errorString":String)="*errors.errorString" by kernel_rfl]; kernel_rfl) (by kernel_rfl) (by decide) u (by rw [show ("*"++"errors.errorString":String)="*errors.errorString" by kernel_rfl]; exact h)
theorem Dd {W:World} {n:String} {text:List UInt8} {l:List (String×DataW Unit)} (h:laidMetH Tryz.prog l W) (e:(l.filter fun x=>x.1==n)=[(n,.iface "*errors.errorString" (.ptr (.agg [.lit (.string text)])))]) (ht:(Tryz.prog.globals[(Tryz.prog.globalNamed n).getD 0]?).map (·.type)=some 75) (hg:(Tryz.prog.globalNamed n).isSome=true):JN Tryz.prog (HW W) n:=fun _=>by
 have h1:=laidMetH.filter (fun x=>x.1==n) h
 rw [e,MakeChecks.laidMetH_plain _ _ _ (by rfl)] at h1
 obtain ⟨g,hg⟩:=dM.1 hg
 rw [hg] at ht
 obtain ⟨a0,s0,hv0, -, -, -⟩:=laid_sentinel h1 hg ht Tryz.underlying75 Od Tryz.underlying250 Tryz.underlying252 rfl rfl Tryz.underlying9 (by kernel_rfl) (by kernel_rfl)
 exact ⟨_,_,Da hv0⟩
theorem Is {W:World} (h:W.ShapedOpen Tryz.prog):BC Tryz.prog (HW W) "internal/bytealg.MaxLen":=fun _=>by
 obtain ⟨m,hm⟩:∃ m,W.cell? ⟨0,0,none⟩=some (.int .i64 m):=Go.Proofs.cell_of_shapedOpen_int (zero:=#[.int .i64 0]) (t:=3) h (of_decide_eq_true (by kernel_rfl)) (by kernel_rfl) rfl (by kernel_rfl) (by kernel_rfl) Tryz.underlying3
 unfold World.cell? at hm
 split at hm
 · split at hm
   · cases hm
   · rename_i cs e fr hb _
     exact ⟨0,cs,e,fr,m,by kernel_rfl,hb,hm⟩
 · cases hm
theorem Py {W:World} (h:laidMetH Tryz.prog Rows.chartParsesRow.laid W) (hs:W.ShapedOpen Tryz.prog):lJ Tryz.prog (HW W):=by
 refine ⟨fun _=>?_,Dd (text:=ue.data.toList) h (by kernel_rfl) (by kernel_rfl) (by kernel_rfl),Dd (text:=ya.data.toList) h (by kernel_rfl) (by kernel_rfl) (by kernel_rfl),Is hs⟩
 have h1:=laidMetH.filter (fun x=>x.1=="internal/strconv.uint64pow10") h
 have e:(Rows.chartParsesRow.laid.filter fun x=>x.1=="internal/strconv.uint64pow10")=[("internal/strconv.uint64pow10",Lib.tabData .u64 Lib.pow10Tab)]:=by kernel_rfl
 rw [e] at h1
 have ht:(Tryz.prog.globals[(Tryz.prog.globalNamed "internal/strconv.uint64pow10").getD 0]?).map (·.type)=some 240:=by kernel_rfl
 exact Da (Lib.tabIs_of_head (rest:=[]) (g:=(Tryz.prog.globalNamed "internal/strconv.uint64pow10").getD 0) (by kernel_rfl) ht Tryz.underlying240 Tryz.underlying182 (by kernel_rfl) (by kernel_rfl) h1)
noncomputable def Nb:DataW Unit→List Value
 | .lit (.int k z)=>[Value.int k z]
 | .agg [.lit (.int k z),.lit (.int k' z')]=>[Value.int k z,Value.int k' z']
 | _=>[]
noncomputable def Lc:DataW Unit→Array Value
 | .agg ds=>(ds.flatMap Nb).toArray
 | _=>#[]
noncomputable def sT (name:String) (cs:Array Value) (heap:Array Obj):Array Obj:=heap.modify ((Tryz.prog.globalNamed name).getD 0) fun
 | .cells _ t frozen=>.cells cs t frozen
 | o=>o
noncomputable def rB (name:String) (d:DataW Unit) (heap:Array Obj):Array Obj:=sT name (Lc d) heap
noncomputable def low:Nat:=(World.holding Tryz.prog default ⟨#[],#[],[]⟩).heap.size
noncomputable def Ip (os:Os):World:=World.holding Tryz.prog os ⟨#[.cells #[.string ya] 252,.cells #[.string ue] 252],#[],[]⟩
noncomputable def qK (os:Os):World :=
 { Ip os with heap:=sT "strconv.ErrRange" #[.iface 250 (.pointer (some ⟨low,0,none⟩))] (sT "strconv.ErrSyntax" #[.iface 250 (.pointer (some ⟨low+1,0,none⟩))] (rB "unicode/utf8.first" Rows.laid_unicode_utf8_first (rB "unicode/utf8.acceptRanges" Rows.laid_unicode_utf8_acceptRanges (rB "internal/strconv.uint64pow10" Rows.laid_internal_strconv_uint64pow10 (rB "math/bits.deBruijn64tab" Rows.laid_math_bits_deBruijn64tab (rB "math/bits.deBruijn32tab" Rows.laid_math_bits_deBruijn32tab (Ip os).heap)))))) }
end Go.Proofs.YtpfidgnkokidoaaGreatDoor
namespace Go.Proofs.YtpfidgnkokidoaaGreatDoor
open Go Go.Ev
def bx:Tys:=[(2,.int),(3,.int),(4,.bool),(5,.byte),(9,.str),(22,.strs),(23,.vars),(24,.stats),(25,.trans),(27,.chart),(59,.val),(61,.var),(62,.deeds),(64,.stat),(66,.cells),(68,.tran),(90,.deed),(92,.cell),(158,.piece),(238,.wait)]
def cE:Cfg:=⟨bx,[]⟩
theorem bG:ai Tryz.prog cE.tab:=ai.nil
def BT (c:UInt8):Bool :=
 (decide ((c.toNat:Int)<97)||decide ((c.toNat:Int)>122))&&(decide ((c.toNat:Int)<48)||decide ((c.toNat:Int)>57))&&((c.toNat:Int) != 95)
variable (s:Str)
def vY:Bool:=s==[]||decide (af s>12)||decide (((s.getD 0 0).toNat:Int)<97)||decide (((s.getD 0 0).toNat:Int)>122)
def AP:Bool:=s==[116,114,117,101]||s==[102,97,108,115,101]||s==[105,110]||s==[114,101]||s==[105,109]
def aP:Bool:=!(vY s) && !(s.any BT) && !(AP s)
def fL (op a:Int) (s:Str):Int :=
 bif op==1 then (bif decide (a<0)||decide (a>1099511627776) || !s==[] then -1 else 0)
 else bif op==2 then (bif decide (a<0)||decide (a>1048576) || !s==[] then -1 else 0)
 else bif op==5 then (bif a != 0 || !aP s then -1 else 0)
 else bif op==6 then (bif a != 0 || !aP s then -1 else 0)
 else bif decide (op<3)||decide (op>23)||a != 0 || !s==[] then -1
 else bif decide (op≤4) then 0 else bif decide (op≤10) then 1 else 2
abbrev bA (c:Cell):Int:=fL c.op c.a c.name
def eQ:List Cell→Int→Bool
 | [],n=>n==1
 | c::r,n=>bif decide (bA c<0)||decide (bA c>n) then false else eQ r (n+(1 - bA c))
def cS (l:List Cell):Bool:=!decide ((l.length:Int)>32)&&eQ l 0
def iD {α:Type} (p:α→Bool):List α→Int→Int
 | [],_=>-1
 | x::r,i=>bif p x then i else iD p r (i+1)
def wF (p:Int×Int):SV:=.tup [.i p.1,.i p.2]
theorem KZ {p:UInt8→Bool} {s:List UInt8} {k:Nat} (hk:k<s.length) (h:p (s.getD k 0)=true):s.any p=true:=by
 rw [df]
 refine ⟨s.getD k 0,?_,h⟩
 rw [List.getD_eq_getElem?_getD,List.getElem?_eq_getElem hk]
 exact eB hk
theorem AW {p:UInt8→Bool} {s:List UInt8} (h:∀ j,j<s.length→p (s.getD j 0)=false):s.any p=false:=by
 rw [dt]
 intro x hx
 obtain ⟨j,hj,rfl⟩:=List.getElem_of_mem hx
 have:=h j hj
 rw [List.getD_eq_getElem?_getD,List.getElem?_eq_getElem hj] at this
 simpa using this
theorem bZ {t:ETy} {l:List t.den} {k:Nat} (h:k<l.length):l.drop k=t.get l k::l.drop (k+1):=by
 rw [cX h,ETy.get_eq (List.getElem?_eq_getElem h)]
theorem cb {α:Type} {l:List α} {k:Nat} (h:¬k<l.length):l.drop k=[]:=List.drop_eq_nil_of_le (by omega)
/-! ### pieces of texts -/
def seg (f k:Nat):Str:=(s.take k).drop f
theorem iI (k:Nat):seg s k k=[]:=by
 unfold seg; rw [eV,bw]; omega
theorem eA {s:Str} {k:Nat} (h:k<s.length):s.drop k=s.getD k 0::s.drop (k+1):=by
 rw [cX h,List.getD_eq_getElem?_getD,List.getElem?_eq_getElem h]; rfl
theorem j4 {s:Str} {f k:Nat} (h:k<s.length) (hf:f≤k):seg s f (k+1)=seg s f k++[s.getD k 0]:=by
 unfold seg
 rw [eR h,List.drop_append_of_le_length (by rw [bw]; omega),List.getD_eq_getElem?_getD,List.getElem?_eq_getElem h]; rfl
theorem Of {s:Str} {f k:Nat} (h:f<k) (hk:k≤s.length):seg s f k≠[]:=by
 unfold seg
 intro e
 have:=congrArg List.length e
 rw [bH,bw] at this
 simp at this; omega
end Go.Proofs.YtpfidgnkokidoaaGreatDoor
