/- An executor for function bodies of the model, proved sound: the machine's steps as rules on a stack of what is left to do, in a function's frame or in a round's. Conditions: one goroutine. The program's structs as data, and how their values lie in rows of cells. Conditions: none. -/
import Derived.WalkKit
import Derived.WalkSmall
import Derived.RangeFuncLeaves
import Derived.RangeFuncNested
import Derived.Lib.Strings
namespace Go.Sy
open Go.RowKit
structure Md where
 fn:FuncId
 rd:Option Nat:=none
instance(n:Nat):OfNat Md n:=⟨⟨n,none⟩⟩
instance:Coe Nat Md:=⟨fun n=>⟨n,none⟩⟩
def EndAt(P:Program)(m:Md)(R:Ending→World→Prop)(b:Frame)(k:List Item)(cs:List Frame)(x:Machine):Prop :=
 match m.rd with
 |none=>∃e w' fr,R e w'∧Comes P x (lone fr cs w') e∧fr.fn=m.fn∧fr.leaving P w' e
 | some _=>(∃a' w',R (.returned (.bool true)) w'∧Steps P x (lone (b.atR a' k) cs w'))∨(∃a' k₁ w',R (.returned (.bool false)) w'∧Steps P x (lone (b.atR a' (.code .ret::k₁)) cs w')) ∨
   (∃a' t w' id,exitTo id t=none∧R (.returned (.int .i64 ((id:Nat):Int))) w'∧Steps P x (lone (b.atR a' (.code (.exit id)::(t++k))) cs w'))
def Fin(P:Program)(m:Md)(R:Ending→World→Prop)(todo:List Item)(a:Act)(w:World):Prop :=
 ∀(b:Frame) (k:List Item) (cs:List Frame),b.roundOf=m.rd→(m.rd=none→b.fn=m.fn∧b.kind = .normal∧k=[])→EndAt P m R b k cs (lone (b.atR a (todo++k)) cs w)
section
variable{P:Program}{f:Md}{R:Ending→World→Prop}{a:Act}{w:World}{k:List Item}
theorem EndAt.of_steps{b:Frame}{cs:List Frame}{x y:Machine}(s:Steps P x y)(h:EndAt P f R b k cs y):EndAt P f R b k cs x:=by
 unfold EndAt at h ⊢
 split at h
 · obtain⟨e,w',fr,r,c,h1⟩:=h
   exact⟨e,w',fr,r,.of_steps s c,h1⟩
 · rcases h with⟨a',w',r,c⟩ |⟨a',k₁,w',r,c⟩ |⟨a',t,w',id,ht,r,c⟩
   ·exact .inl ⟨a',w',r,s.trans c⟩
   ·exact .inr (.inl ⟨a',k₁,w',r,s.trans c⟩)
   ·exact .inr (.inr ⟨a',t,w',id,ht,r,s.trans c⟩)
theorem Fin.of_step{todo todo':List Item}{a':Act}{w':World}
 (h:∀(b:Frame) (k:List Item) (cs:List Frame),step P (lone (b.atR a (todo++k)) cs w) = .next (lone (b.atR a' (todo'++k)) cs w'))
 (hf:Fin P f R todo' a' w'):Fin P f R todo a w:=fun b k cs hr h0 =>
 EndAt.of_steps (.one (h b k cs)) (hf b k cs hr h0)
theorem Fin.mono{R':Ending→World→Prop}{todo:List Item}(h:∀e w,R e w→R' e w)(hf:Fin P f R todo a w):Fin P f R' todo a w:=fun b k cs hr h0=>by
 have:=hf b k cs hr h0
 unfold EndAt at this ⊢
 split
 · rename_i hm
   rw[hm]at this
   obtain⟨e,w',fr,r,c⟩:=this
   exact⟨e,w',fr,h _ _ r,c⟩
 · rename_i l hm
   rw[hm]at this
   rcases this with⟨a',w',r,c⟩ |⟨a',k₁,w',r,c⟩ |⟨a',t,w',id,ht,r,c⟩
   ·exact .inl ⟨a',w',h _ _ r,c⟩
   ·exact .inr (.inl ⟨a',k₁,w',h _ _ r,c⟩)
   ·exact .inr (.inr ⟨a',t,w',id,ht,h _ _ r,c⟩)
theorem Fin.skip(h:Fin P f R k a w):Fin P f R (.code .skip::k) a w:=.of_step (fun _ _ _=>stepR_skip) h
theorem Fin.label{l:Nat}(h:Fin P f R k a w):Fin P f R (.code (.label l)::k) a w:=.of_step (fun _ _ _=>stepR_label) h
theorem Fin.inBlock{i:Nat}(h:Fin P f R k a w):Fin P f R (.inBlock i::k) a w:=.of_step (fun _ _ _=>stepR_inBlock) h
theorem Fin.inScope{c:Code}(h:Fin P f R k a w):Fin P f R (.inScope c::k) a w :=
 .of_step (fun _ _ _=>step_lone_go (by simp[stepG,stepG.exec,Frame.atR])) h
theorem Fin.seq{x y:Code}(h:Fin P f R (.code x :: .code y::k) a w):Fin P f R (.code (.seq x y)::k) a w:=.of_step (fun _ _ _=>stepR_seq) h
theorem Fin.block{i:Nat}{c:Code}(h:Fin P f R (.code c :: .inBlock i::k) a w):Fin P f R (.code (.block i c)::k) a w:=.of_step (fun _ _ _=>stepR_block) h
theorem Fin.scope{c:Code}(h:Fin P f R (.code c :: .inScope c::k) a w):Fin P f R (.code (.scope c)::k) a w :=
 .of_step (fun _ _ _=>step_lone_go (by simp[stepG,stepG.exec,Frame.atR])) h
theorem Fin.loop{c:Code}(h:Fin P f R (.code c :: .inLoop c::k) a w):Fin P f R (.code (.loop c)::k) a w:=.of_step (fun _ _ _=>stepR_loop) h
theorem Fin.inLoop{c:Code}(h:Fin P f R (.code c :: .inLoop c::k) a w):Fin P f R (.inLoop c::k) a w:=.of_step (fun _ _ _=>stepR_inLoop) h
theorem exitTo_append{i:Nat}:∀{k k':List Item} (l:List Item),exitTo i k=some k'→exitTo i (k++l)=some (k'++l)
 |[],_,_,h=>by simp[exitTo]at h
 | x::k,k',l,h=>by
   cases x <;> simp only[exitTo,List.cons_append]at h ⊢ <;> first
    |exact exitTo_append l h
    | (split at h
       ·rename_i hi;simp only[Option.some.injEq]at h;rw[if_pos hi,h]
       ·rename_i hi;rw[if_neg hi];exact exitTo_append l h)
theorem gotoIn_append{i:Nat}:∀{k k':List Item} (l:List Item),gotoIn i k=some k'→gotoIn i (k++l)=some (k'++l)
 |[],_,_,h=>by simp[gotoIn]at h
 | x::k,k',l,h=>by
   cases x <;> simp only[gotoIn,List.cons_append]at h ⊢ <;> first
    |exact gotoIn_append l h
    | (split at h
       ·rename_i c hc;simp only[Option.some.injEq]at h;rw[←h];rfl
       ·exact gotoIn_append l h)
theorem Fin.exit{i:Nat}{k':List Item}(he:exitTo i k=some k')(h:Fin P f R k' a w):Fin P f R (.code (.exit i)::k) a w :=
 .of_step (fun _ l _=>stepR_exit (exitTo_append l he)) h
theorem Fin.goto{l:Nat}{k':List Item}(he:gotoIn l k=some k')(h:Fin P f R k' a w):Fin P f R (.code (.goto l)::k) a w :=
 .of_step (fun _ l _=>stepR_goto (gotoIn_append l he)) h
theorem Fin.cond{c:Operand}{x y:Code}{t:Bool}(hc:a.eval c = .bool t)(h:Fin P f R (.code (if t then x else y)::k) a w):Fin P f R (.code (.cond c x y)::k) a w :=
 .of_step (fun _ _ _=>stepR_cond hc) h
theorem Fin.region{i:Nat}{ops:Array Oper}(h:Fin P f R (.inRegion ops (List.range ops.size)::k) a w):Fin P f R (.code (.region i ops false)::k) a w :=
 .of_step (fun _ _ _=>stepR_region) h
theorem Fin.region_draw{i:Nat}{ops:Array Oper}(h:∀t,Fin P f R (.inRegion ops (Region.schedule (P.follows .mixedOrders) ops t)::k) a w.drew):Fin P f R (.code (.region i ops true)::k) a w:=by
 intro b l cs hr h0
 exact EndAt.of_steps (.one stepR_region_draw) (h (w.tape w.drawn (.order b.fn i)) b l cs hr h0)
theorem Fin.region_end{ops:Array Oper}(h:Fin P f R k a w):Fin P f R (.inRegion ops []::k) a w:=.of_step (fun _ _ _=>stepR_region_end) h
theorem Fin.op_unwanted{ops:Array Oper}{i:Nat}{rest:List Nat}{o:Oper}(ho:ops[i]?=some o)(hw:Region.wanted o (yielded ops a.tmps)=false)
 (h:Fin P f R (.inRegion ops rest::k) (a.put o.dst undef) w):Fin P f R (.inRegion ops (i::rest)::k) a w :=
 .of_step (fun b l cs=>by
  have hs:=stepR_op_skip (P:=P) (b:=b) (a:=a) (k:=k++l) (cs:=cs) (w:=w) (ops:=ops) (i:=i) (rest:=rest) (by simp[ho,hw])
  simpa only[ho,Option.bind_some,List.cons_append]using hs) h
theorem semAt_run{ro:Option Nat}{ρ:Operand→Value}{o:Oper}{x:Next}{w w':World}(h:(execOp ρ o).run P w = .ok x w')(hx:∀d,x≠.defer d):(o.semAt ro ρ).run P w = .ok x w':=by
 by_cases hd:∃c,o.op = .defer c
 · obtain⟨c,hc⟩:=hd
   obtain⟨dst,op,ty,pos,after,guard⟩:=o
   simp only at hc
   subst hc
   simp only[execOp,Sem.run_bind]at h
   cases hr:(resolve ρ c ty).run P w with
   | ok d w1 =>
     rw[hr]at h
     simp[Result.andThen,Sem.run_pure]at h
     exact absurd h.1.symm (hx d)
   |halt e w1=>rw[hr]at h;simp[Result.andThen]at h
 ·rw[Oper.semAt_eq ro ρ o fun c hc=>hd ⟨c,hc⟩];exact h
theorem Fin.op_value{ops:Array Oper}{i:Nat}{rest:List Nat}{o:Oper}{v:Value}{w':World}(ho:ops[i]?=some o)(hw:Region.wanted o (yielded ops a.tmps)=true)
 (hr:(execOp a.eval o).run P w = .ok (.value v) w') (h:Fin P f R (.inRegion ops rest::k) (a.put o.dst v) w'):Fin P f R (.inRegion ops (i::rest)::k) a w :=
 .of_step (fun b l cs=>step_lone_go (by
  have hg:=stepGR_op (P:=P) (b:=b) (k:=k++l) (cs:=cs) (w:=w) (rest:=rest) ho hw
  have hfin:(b.atR a (.inRegion ops (i::rest)::(k++l))).finish v=b.atR (a.put o.dst v) (.inRegion ops rest::(k++l)):=by rw[Frame.finish_atR,ho];rfl
  rw[List.cons_append,hg,List.cons_append,←hfin];simp[stepG.apply,semAt_run hr (by simp)])) h
theorem Fin.op_skip{ops:Array Oper}{i:Nat}{rest:List Nat}{o:Oper}{w':World}(ho:ops[i]?=some o)(hw:Region.wanted o (yielded ops a.tmps)=true)
 (hr:(execOp a.eval o).run P w = .ok .skip w') (h:Fin P f R (.inRegion ops rest::k) (a.put o.dst undef) w'):Fin P f R (.inRegion ops (i::rest)::k) a w :=
 .of_step (fun b l cs=>step_lone_go (by
  have hg:=stepGR_op (P:=P) (b:=b) (k:=k++l) (cs:=cs) (w:=w) (rest:=rest) ho hw
  have hfin:(b.atR a (.inRegion ops (i::rest)::(k++l))).finish undef=b.atR (a.put o.dst undef) (.inRegion ops rest::(k++l)):=by rw[Frame.finish_atR,ho];rfl
  rw[List.cons_append,hg,List.cons_append,←hfin];simp[stepG.apply,semAt_run hr (by simp)])) h
theorem Fin.op_call{ops:Array Oper}{i:Nat}{rest:List Nat}{o:Oper}{g:FuncId}{args:Array Value}{w':World}(ho:ops[i]?=some o)(hw:Region.wanted o (yielded ops a.tmps)=true)
 (hr:(execOp a.eval o).run P w = .ok (.enter g args) w')
 (h:Calls P g args w' fun e w2=>∃v,e = .returned v∧Fin P f R (.inRegion ops rest::k) (a.put o.dst v) w2):Fin P f R (.inRegion ops (i::rest)::k) a w:=by
 intro b l cs hro h0
 have hg:=stepGR_op (P:=P) (b:=b) (k:=k++l) (cs:=cs) (w:=w) (rest:=rest) ho hw
 have hfin:∀v,(b.atR a (.inRegion ops (i::rest)::(k++l))).finish v=b.atR (a.put o.dst v) (.inRegion ops rest::(k++l)):=by intro v;rw[Frame.finish_atR,ho];rfl
 obtain⟨e,w2,fr,⟨v,rfl,hF⟩,hsteps,_,hleave⟩:=h (b.atR a (.inRegion ops (i::rest)::(k++l))::cs)
 have henter:step P (lone (b.atR a (.inRegion ops (i::rest)::(k++l))) cs w) = .next (lone (Frame.enter P g args .normal) (b.atR a (.inRegion ops (i::rest)::(k++l))::cs) w') :=
  step_lone_go (by rw[hg];simp[stepG.apply,semAt_run hr (by simp),Frame.atR])
 refine EndAt.of_steps (.head henter (hsteps.trans (.one ?_))) (hF b l cs hro h0)
 rw[List.cons_append,←hfin];exact step_leave_returned hleave
theorem Fin.yield{n:Nat}{ops:Array Oper}{i:Nat}{rest:List Nat}{o:Oper}{l g:Nat}{tmps:Array Value}{assign body:Code}{w':World}(ho:ops[i]?=some o)(hw:Region.wanted o (yielded ops a.tmps)=true)
 (hr:(execOp a.eval o).run P w = .ok (.round l g tmps assign body) w')
 (h:RoundIn Fence.wide n P l g tmps assign body w' fun e w2=>∃v,e = .returned v∧Fin P f R (.inRegion ops rest::k) (a.put o.dst v) w2):Fin P f R (.inRegion ops (i::rest)::k) a w:=by
 intro b l' cs hro h0
 have hg:=stepGR_op (P:=P) (b:=b) (k:=k++l') (cs:=cs) (w:=w) (rest:=rest) ho hw
 have hfin:∀v,(b.atR a (.inRegion ops (i::rest)::(k++l'))).finish v=b.atR (a.put o.dst v) (.inRegion ops rest::(k++l')):=by intro v;rw[Frame.finish_atR,ho];rfl
 obtain⟨e,w2,⟨v,rfl,hF⟩,hsteps⟩:=h.2 (b.atR a (.inRegion ops (i::rest)::(k++l'))) cs (room_wide _)
 have henter:step P (lone (b.atR a (.inRegion ops (i::rest)::(k++l'))) cs w) = .next (lone (Frame.round l g tmps assign body .normal) (b.atR a (.inRegion ops (i::rest)::(k++l'))::cs) w') :=
  step_lone_go (by rw[hg];simp[stepG.apply,semAt_run hr (by simp),Frame.atR])
 have hs2:Steps P (lone (Frame.round l g tmps assign body .normal) (b.atR a (.inRegion ops (i::rest)::(k++l'))::cs) w') (lone ((b.atR a (.inRegion ops (i::rest)::(k++l'))).finish v) cs w2):=stepsIn_wide.1 hsteps
 rw[hfin]at hs2
 exact EndAt.of_steps (.head henter hs2) (hF b l' cs hro h0)
theorem Fin.ret{fn:Func}{v:Value}(hm:f.rd=none)(hf:P.funcs[f.fn]?=some fn)(hd:a.defers=[])(hr:(results fn a.tmps).run P w = .ok v w)(h:R (.returned v) w):Fin P f R (.code .ret::k) a w:=by
 intro b l cs hro h0
 obtain⟨hb,hk,hl⟩:=h0 hm
 unfold EndAt
 rw[hm]
 refine⟨.returned v,w,_,h,Steps.one (stepR_ret (hro.trans hm)),hb,?_⟩
 exact⟨rfl,hd,hk,fn,by simpa[Frame.atR,hb]using hf,hr⟩
end
def took(w:World):List Nat→World
 |[]=>w
 |D::ds=>took (w.putObj D (.deferred none)) ds
section
variable{P:Program}{f:Md}{R:Ending→World→Prop}{a:Act}{w:World}{k:List Item}
theorem put_other{w:World}{D E:Nat}{o:Obj}(h:E≠D):(w.putObj D o).heap[E]?=w.heap[E]?:=World.putObj_heap_other h
theorem leave_marks:∀(ds:List Nat) (w:World) (fr:Frame) (cs:List Frame),fr.mode = .returning→fr.defers=ds.map (fun D=>({target:=.collected D,args:=#[]}:Deferred))→ds.Nodup→(∀D∈ds,w.heap[D]?=some (.deferred (some []))) →
 Steps P (lone fr cs w) (lone {fr with defers:=[]} cs (took w ds))
 | [],w,fr,cs,hm,hd,_,_=>by
   have e:{fr with defers:=[]}=fr:=by cases fr;simp only at hd;simp[hd]
   rw[e];exact Steps.refl P _
 | D::ds,w,fr,cs,hm,hd,hn,hk=>by
   obtain⟨h1,h2⟩:=List.nodup_cons.1 hn
   have s:=step_collected (P:=P) (fr:=fr) (cs:=cs) (w:=w) (by rw[hm];simp) hd rfl (run_takeDeferred (hk D List.mem_cons_self))
   refine .head s (leave_marks ds _ {fr with defers:=[]++ds.map (fun D=>({target:=.collected D,args:=#[]}:Deferred))} cs hm rfl h2 fun E hE=>?_)
   have hne:E≠D:=fun e=>h1 (by rw[←e];exact hE)
   exact(put_other hne).trans (hk E (List.mem_cons_of_mem _ hE))
theorem Fin.retM{fn:Func}{v:Value}{ds:List Nat}(hm:f.rd=none)(hf:P.funcs[f.fn]?=some fn)(hd:a.defers=ds.map (fun D=>({target:=.collected D,args:=#[]}:Deferred)))(hn:ds.Nodup)(hk:∀D∈ds,w.heap[D]?=some (.deferred (some [])))
 (hr:(results fn a.tmps).run P (took w ds) = .ok v (took w ds)) (h:R (.returned v) (took w ds)):Fin P f R (.code .ret::k) a w:=by
 intro b l cs hro h0
 obtain⟨hb,hkd,hl⟩:=h0 hm
 unfold EndAt
 rw[hm]
 refine⟨.returned v,took w ds,_,h,(Steps.one (stepR_ret (hro.trans hm))).trans (leave_marks ds w _ cs rfl hd hn hk),hb,?_⟩
 exact⟨rfl,rfl,hkd,fn,by simpa[Frame.atR,hb]using hf,hr⟩
theorem Fin.endM{fn:Func}{v:Value}{ds:List Nat}(hm:f.rd=none)(hf:P.funcs[f.fn]?=some fn)(hd:a.defers=ds.map (fun D=>({target:=.collected D,args:=#[]}:Deferred)))(hn:ds.Nodup)(hk:∀D∈ds,w.heap[D]?=some (.deferred (some [])))
 (hr:(results fn a.tmps).run P (took w ds) = .ok v (took w ds)) (h:R (.returned v) (took w ds)):Fin P f R [] a w:=by
 intro b l cs hro h0
 obtain⟨hb,hkd,hl⟩:=h0 hm
 subst hl
 unfold EndAt
 rw[hm]
 refine⟨.returned v,took w ds,_,h,(Steps.one (stepR_end (hro.trans hm))).trans (leave_marks ds w _ cs rfl hd hn hk),hb,?_⟩
 exact⟨rfl,rfl,hkd,fn,by simpa[Frame.atR,hb]using hf,hr⟩
theorem took_other:∀(ds:List Nat) (w:World) (k:Nat),k ∉ ds→(took w ds).heap[k]?=w.heap[k]?
 |[],_,_,_=>rfl
 | D::ds,w,k,h=>by
   simp only[List.mem_cons,not_or]at h
   rw[took,took_other ds _ k h.2,put_other h.1]
theorem took_same:∀(ds:List Nat) (w:World),(took w ds).os=w.os∧(took w ds).tape=w.tape∧(took w ds).output=w.output∧(took w ds).heap.size=w.heap.size
 |[],_=>⟨rfl,rfl,rfl,rfl⟩
 | D::ds,w=>by
   have:=took_same ds (w.putObj D (.deferred none))
   rw[took]
   refine⟨this.1,this.2.1,this.2.2.1,this.2.2.2.trans ?_⟩
   simp
end
theorem calls_of_fin{P:Program}{f:FuncId}{fn:Func}{c:Code}{args:Array Value}{w:World}{R:Ending→World→Prop}
 (hf:P.funcs[f]?=some fn) (hb:fn.body=some c)
 (h:Fin P (f:Md) R [.code c] {tmps:=args++Array.replicate (fn.ntmps - args.size) undef,defers:=[]} w):Calls P f args w R:=by
 intro cs
 let b:Frame:={ (default:Frame)with fn:=f,kind:=.normal,roundOf:=none}
 have henter:Frame.enter P f args .normal=b.atR {tmps:=args++Array.replicate (fn.ntmps - args.size) undef,defers:=[]} [.code c]:=by
  simp[Frame.enter,Frame.atR,hf,hb,b]
 obtain⟨e,w',fr,r,hc,h1,h2⟩:=h b [] cs rfl fun _=>⟨rfl,rfl,rfl⟩
 rw[List.append_nil,←henter]at hc
 exact⟨e,w',fr,r,hc,h1,h2⟩
end Go.Sy
namespace Go.Ev
open Go.RowKit
abbrev aa:=@Option.some.injEq
abbrev ae:=@Prod.mk.injEq
abbrev af:=@Bool.and_eq_true
abbrev ai:=@Int.toNat_natCast
abbrev aj:=@Option.map_eq_some_iff
abbrev ak:=@Nat.eq_of_beq_eq_true
abbrev al:=@Bool.or_eq_false_iff
abbrev an:=@List.all_eq_true
abbrev au:=@List.length_append
abbrev ax:=@List.length_cons
abbrev aq:=@List.map_cons
abbrev aA:=@Int.eq_ofNat_of_zero_le
abbrev az:=@List.mem_cons_self
abbrev aB:=@Nat.le_of_ble_eq_true
abbrev aD:=@List.mem_cons_of_mem
abbrev av:=@Nat.le_refl
abbrev aL:=@List.take_succ_eq_append_getElem
abbrev aH:=@List.mem_filter
abbrev aC:=@Nat.le_trans
abbrev aK:=@Bool.not_eq_true'
abbrev aI:=@List.mem_cons
abbrev D8:=@List.mem_of_getElem
abbrev aN:=@Bool.or_eq_true
abbrev aO:=@List.append_nil
abbrev aM:=@List.mem_map
abbrev aQ:=@List.mem_singleton
abbrev aP:=@List.length_map
abbrev aY:=@List.length_filter_le
abbrev a8:=@List.take_of_length_le
abbrev aW:=@List.getElem_mem
abbrev aT:=@Bool.eq_iff_iff
abbrev bm:=@Option.bind_eq_some_iff
abbrev aS:=@Nat.zero_le
abbrev a6:=@List.length_take
abbrev a7:=@List.mem_flatMap
abbrev bf:=@List.any_eq_true
abbrev bb:=@Bool.true_and
abbrev ba:=@Nat.zero_add
abbrev bj:=@Bool.false_or
abbrev bE:=@List.eq_nil_of_length_eq_zero
abbrev br:=@Bool.false_and
abbrev bu:=@Option.map_some
abbrev bA:=@List.length_set
abbrev bz:=@List.all_append
abbrev bF:=@List.flatMap_cons
abbrev bD:=@List.append_assoc
abbrev bQ:=@Nat.mul_le_mul_right
abbrev bC:=@List.map_append
abbrev bP:=@List.reverse_cons
abbrev bO:=@List.cons_append
abbrev bG:=@List.range'_succ
abbrev bK:=@List.mem_append
abbrev bJ:=@List.length_nil
abbrev bU:=@List.length_reverse
abbrev bL:=@List.mem_range
abbrev bT:=@List.foldl_cons
abbrev bW:=@Nat.lt_of_lt_of_le
abbrev bN:=@Bool.or_false
abbrev bZ:=@Bool.and_eq_false_iff
abbrev bX:=@Option.some.inj
abbrev cc:=@List.filter_append
abbrev cf:=@List.pairwise_cons
abbrev ct:=@List.mem_append_right
abbrev cl:=@Array.length_toList
abbrev cd:=@List.nil_append
abbrev cb:=@List.map_nil
abbrev b9:=@Bool.true_or
abbrev cr:=@List.any_cons
abbrev cq:=@Bool.not_true
abbrev cH:=@List.mem_append_left
abbrev cA:=@List.drop_zero
abbrev cD:=@Nat.two_pow_pos
abbrev cG:=@Bool.not_eq_true
abbrev cQ:=@List.length_singleton
abbrev cI:=@Bool.not_false
abbrev cy:=@Nat.pow_add
abbrev cF:=@Nat.add_zero
abbrev cU:=@Nat.shiftLeft_eq
abbrev dm:=@List.drop_eq_getElem_cons
abbrev dn:=@List.pairwise_iff_getElem
abbrev dp:=@List.take_append_drop
abbrev du:=@Array.size_setIfInBounds
abbrev cN:=@Nat.add_mul
abbrev dc:=@Array.toList_map
abbrev de:=@List.map_toArray
abbrev dd:=@Int.natCast_zero
abbrev dy:=@List.mem_iff_getElem
abbrev df:=@Bool.and_false
abbrev dG:=@Int.lt_trichotomy
abbrev dw:=@Nat.min_eq_left
abbrev dv:=@List.nodup_cons
abbrev dQ:=@Array.toList_inj
abbrev dW:=@Bool.false_eq_true
abbrev dF:=@Bool.and_true
abbrev dM:=@Bool.not_eq_false'
abbrev dZ:=@List.length_replicate
abbrev eo:=@Int.mul_neg_of_neg_of_pos
abbrev ez:=@List.drop_eq_nil_iff
abbrev eD:=@List.filter_eq_self
abbrev eF:=@Nat.add_sub_cancel_left
abbrev HK:=@List.ext_getElem
abbrev eI:=@List.take_append_of_le_length
abbrev eX:=@Nat.ble_eq_true_of_le
abbrev eU:=@List.any_eq_false
abbrev eH:=@List.all_cons
abbrev eV:=@List.nodup_append
abbrev fh:=@List.nodup_iff_pairwise_ne
abbrev fm:=@Array.toArray_toList
abbrev fp:=@List.pairwise_append
abbrev fc:=@List.take_take
abbrev fB:=@List.mem_take_iff_getElem
abbrev fF:=@List.map_congr_left
abbrev fE:=@Int.toNat_of_nonneg
abbrev fG:=@List.mergeSort_perm
abbrev fH:=@List.replicate_succ
abbrev eY:=@Nat.sub_self
abbrev fM:=@Option.isSome_iff_exists
abbrev fK:=@List.any_append
abbrev fV:=@List.length_eq_zero_iff
abbrev fW:=@List.pairwise_mergeSort
abbrev fy:=@Bool.or_assoc
abbrev fX:=@List.pairwise_singleton
abbrev fL:=@List.headD_cons
abbrev gr:=@List.filter_congr
abbrev gv:=@List.getElem_take
abbrev fA:=@Int.le_refl
abbrev gp:=@Int.compare_eq_lt
abbrev gn:=@Int.compare_eq_gt
abbrev gm:=@Int.compare_eq_eq
abbrev gl:=@Array.size_append
abbrev gx:=@List.length_range
abbrev gu:=@List.foldl_append
abbrev gh:=@List.tail_cons
abbrev gd:=@Int.natAbs_mul
abbrev gg:=@List.nodup_nil
abbrev gG:=@Nat.add_assoc
abbrev gF:=@List.drop_one
abbrev gH:=@Nat.mul_assoc
def bs(l:List UInt8):ByteArray:=⟨l.toArray⟩
theorem lL(s:ByteArray):bs s.data.toList=s:=by cases s;simp[bs]
theorem gO(l:List UInt8):(bs l).data.toList=l:=by simp[bs]
theorem kU(l:List UInt8):(bs l).size=l.length:=by simp[bs,ByteArray.size]
abbrev Str:=List UInt8
structure Cell where
 op:Int
 a:Int
 name:Str
structure Val where
 kind:Int
 a:Int
 b:Int
structure Var where
 name:Str
 kind:Int
 lo:Int
 hi:Int
 init:Val
structure KRow where
 low:Int
 high:Int
 left:Int
 right:Int
 out:Int
structure Piece where
 s:Str
 power:Int
structure Deed where
 kind:Int
 name:Str
 expr:List Cell
structure Stat where
 name:Str
 kind:Int
 depth:Int
 initial:Str
 entry:List Deed
 leave:List Deed
structure Tran where
 src:Int
 event:Str
 guard:List Cell
 dst:Str
 acts:List Deed
structure Chart where
 name:Str
 events:List Str
 vars:List Var
 states:List Stat
 trans:List Tran
structure Past where
 state:Int
 set:List Int
structure Wait where
 op:Int
 power:Int
inductive ETy where
 |int |bool |str |byte |cell |val |var |krow |piece |deed |stat |tran |chart |past |wait
 |ints |strs |cells |vals |vars |deeds |stats |trans |pasts |bytes
deriving DecidableEq
@[reducible] def ETy.den:ETy→Type
 |.int=>Int |.bool=>Bool |.str=>Str |.byte=>Int |.wait=>Wait |.cell=>Cell |.val=>Val |.var=>Var |.krow=>KRow |.piece=>Piece |.deed=>Deed |.stat=>Stat |.tran=>Tran |.chart=>Chart |.past=>Past
 |.ints=>List Int |.strs=>List Str |.cells=>List Cell |.vals=>List Val |.vars=>List Var |.deeds=>List Deed |.stats=>List Stat |.trans=>List Tran |.pasts=>List Past |.bytes=>List Int
def Val.zero:Val:=⟨0,0,0⟩
def ETy.dflt:(t:ETy)→t.den
 |.int=>(0:Int) |.bool=>false |.str=>([]:Str) |.byte=>(0:Int) |.wait=>(⟨0,0⟩:Wait) |.cell=>(⟨0,0,[]⟩:Cell) |.val=>Val.zero |.var=>(⟨[],0,0,0,Val.zero⟩:Var) |.krow=>(⟨0,0,0,0,0⟩:KRow) |.piece=>(⟨[],0⟩:Piece) |.deed=>(⟨0,[],[]⟩:Deed)
 |.stat=>(⟨[],0,0,[],[],[]⟩:Stat) |.tran=>(⟨0,[],[],[],[]⟩:Tran) |.chart=>(⟨[],[],[],[],[]⟩:Chart) |.past=>(⟨0,[]⟩:Past)
 |.ints=>([]:List Int) |.strs=>([]:List Str) |.cells=>([]:List Cell) |.vals=>([]:List Val) |.vars=>([]:List Var) |.deeds=>([]:List Deed) |.stats=>([]:List Stat) |.trans=>([]:List Tran) |.pasts=>([]:List Past) |.bytes=>([]:List Int)
def ETy.size:ETy→Nat
 |.int=>1 |.bool=>1 |.str=>1 |.byte=>1 |.cell=>3 |.val=>3 |.var=>7 |.krow=>5 |.piece=>2 |.deed=>3 |.stat=>6 |.tran=>5 |.chart=>5 |.past=>2 |.wait=>2
 |_=>1
inductive PD where
 |int (k:IntKind) (n:Int)
 |bool (b:Bool)
 |str (s:Str)
 |v (x:Value)
 |lst (t:ETy) (l:List t.den)
 |ref (t:ETy) (x:t.den) (off:Nat)
 |fl (o:Option Nat)
 |cx (o:Option (Nat×Nat))
 |err
 |tbl (l:List (Str×Nat))
 |buf (e:TypeId) (s:Str)
 |fnAt (l:List (Nat×List PD)) (k:Nat)
 |fns (l:List (Nat×List PD))
deriving Inhabited
abbrev PD.i(n:Int):PD:=.int .i64 n
def Val.enc(x:Val):List PD:=[.i x.kind,.i x.a,.i x.b]
def ETy.enc:(t:ETy)→t.den→List PD
 |.int,n=>[.i n]
 |.bool,b=>[.bool b]
 |.str,s=>[.str s]
 |.byte,b=>[.int .u8 b]
 |.wait,x=>[.i x.op,.i x.power]
 |.cell,c=>[.i c.op,.i c.a,.str c.name]
 |.val,x=>[.i x.kind,.i x.a,.i x.b]
 |.var,v=>[.str v.name,.i v.kind,.i v.lo,.i v.hi,.i v.init.kind,.i v.init.a,.i v.init.b]
 |.krow,r=>[.i r.low,.i r.high,.i r.left,.i r.right,.i r.out]
 |.piece,p=>[.str p.s,.i p.power]
 |.deed,d=>[.i d.kind,.str d.name,.lst .cell d.expr]
 |.stat,s=>[.str s.name,.i s.kind,.i s.depth,.str s.initial,.lst .deed s.entry,.lst .deed s.leave]
 |.tran,t=>[.i t.src,.str t.event,.lst .cell t.guard,.str t.dst,.lst .deed t.acts]
 |.chart,c=>[.str c.name,.lst .str c.events,.lst .var c.vars,.lst .stat c.states,.lst .tran c.trans]
 |.past,p=>[.i p.state,.lst .int p.set]
 |.ints,l=>[.lst .int l]
 |.strs,l=>[.lst .str l]
 |.cells,l=>[.lst .cell l]
 |.vals,l=>[.lst .val l]
 |.vars,l=>[.lst .var l]
 |.deeds,l=>[.lst .deed l]
 |.stats,l=>[.lst .stat l]
 |.trans,l=>[.lst .tran l]
 |.pasts,l=>[.lst .past l]
 |.bytes,l=>[.lst .byte l]
theorem ETy.enc_length(t:ETy)(x:t.den):(t.enc x).length=t.size:=by cases t <;> rfl
theorem ETy.size_pos(t:ETy):0<t.size:=by cases t <;> decide
def ETy.get(t:ETy)(l:List t.den)(j:Nat):t.den:=l.getD j t.dflt
theorem ETy.get_eq{t:ETy}{l:List t.den}{j:Nat}{x:t.den}(h:l[j]?=some x):t.get l j=x:=by simp[ETy.get,List.getD_eq_getElem?_getD,h]
theorem ETy.getElem?_get{t:ETy}{l:List t.den}{j:Nat}(h:j<l.length):l[j]?=some (t.get l j):=by
 simp[ETy.get,List.getD_eq_getElem?_getD,List.getElem?_eq_getElem h]
def PD.int?:PD→Option Int
 |.int .i64 n=>some n
 |_=>none
def PD.u8?:PD→Option Int
 |.int .u8 n=>some n
 |_=>none
def PD.str?:PD→Option Str
 |.str s=>some s
 |_=>none
def PD.bool?:PD→Option Bool
 |.bool b=>some b
 |_=>none
def PD.lst?(t:ETy):PD→Option (List t.den)
 |.lst t' l=>if h:t'=t then some (h ▸ l)else none
 |.v (.slice none 0 0)=>some []
 |_=>none
def ETy.dec:(t:ETy)→List PD→Option t.den
 | .int=>fun ps=>match ps with
   |[a]=>a.int?
   |_=>none
 | .bool=>fun ps=>match ps with
   |[a]=>a.bool?
   |_=>none
 | .str=>fun ps=>match ps with
   |[a]=>a.str?
   |_=>none
 | .cell=>fun ps=>match ps with
   | [a,b,c]=>match a.int?,b.int?,c.str? with
     |some a,some b,some c=>some (⟨a,b,c⟩:Cell)
     |_,_,_=>none
   |_=>none
 | .val=>fun ps=>match ps with
   | [a,b,c]=>match a.int?,b.int?,c.int? with
     |some a,some b,some c=>some (⟨a,b,c⟩:Val)
     |_,_,_=>none
   |_=>none
 | .var=>fun ps=>match ps with
   | [a,b,c,d,e,f,g]=>match a.str?,b.int?,c.int?,d.int?,e.int?,f.int?,g.int? with
     |some a,some b,some c,some d,some e,some f,some g=>some (⟨a,b,c,d,⟨e,f,g⟩⟩:Var)
     |_,_,_,_,_,_,_=>none
   |_=>none
 | .krow=>fun ps=>match ps with
   | [a,b,c,d,e]=>match a.int?,b.int?,c.int?,d.int?,e.int? with
     |some a,some b,some c,some d,some e=>some (⟨a,b,c,d,e⟩:KRow)
     |_,_,_,_,_=>none
   |_=>none
 | .piece=>fun ps=>match ps with
   | [a,b]=>match a.str?,b.int? with
     |some a,some b=>some (⟨a,b⟩:Piece)
     |_,_=>none
   |_=>none
 | .deed=>fun ps=>match ps with
   | [a,b,c]=>match a.int?,b.str?,c.lst? .cell with
     |some a,some b,some c=>some (⟨a,b,c⟩:Deed)
     |_,_,_=>none
   |_=>none
 | .stat=>fun ps=>match ps with
   | [a,b,c,d,e,f]=>match a.str?,b.int?,c.int?,d.str?,e.lst? .deed,f.lst? .deed with
     |some a,some b,some c,some d,some e,some f=>some (⟨a,b,c,d,e,f⟩:Stat)
     |_,_,_,_,_,_=>none
   |_=>none
 | .tran=>fun ps=>match ps with
   | [a,b,c,d,e]=>match a.int?,b.str?,c.lst? .cell,d.str?,e.lst? .deed with
     |some a,some b,some c,some d,some e=>some (⟨a,b,c,d,e⟩:Tran)
     |_,_,_,_,_=>none
   |_=>none
 | .chart=>fun ps=>match ps with
   | [a,b,c,d,e]=>match a.str?,b.lst? .str,c.lst? .var,d.lst? .stat,e.lst? .tran with
     |some a,some b,some c,some d,some e=>some (⟨a,b,c,d,e⟩:Chart)
     |_,_,_,_,_=>none
   |_=>none
 | .past=>fun ps=>match ps with
   | [a,b]=>match a.int?,b.lst? .int with
     |some a,some b=>some (⟨a,b⟩:Past)
     |_,_=>none
   |_=>none
 | .ints=>fun ps=>match ps with
   |[a]=>a.lst? .int
   |_=>none
 | .strs=>fun ps=>match ps with
   |[a]=>a.lst? .str
   |_=>none
 | .cells=>fun ps=>match ps with
   |[a]=>a.lst? .cell
   |_=>none
 | .vals=>fun ps=>match ps with
   |[a]=>a.lst? .val
   |_=>none
 | .vars=>fun ps=>match ps with
   |[a]=>a.lst? .var
   |_=>none
 | .deeds=>fun ps=>match ps with
   |[a]=>a.lst? .deed
   |_=>none
 | .stats=>fun ps=>match ps with
   |[a]=>a.lst? .stat
   |_=>none
 | .trans=>fun ps=>match ps with
   |[a]=>a.lst? .tran
   |_=>none
 | .pasts=>fun ps=>match ps with
   |[a]=>a.lst? .past
   |_=>none
 | .bytes=>fun ps=>match ps with
   |[a]=>a.lst? .byte
   |_=>none
 | .byte=>fun ps=>match ps with
   |[a]=>a.u8?
   |_=>none
 | .wait=>fun ps=>match ps with
   | [a,b]=>match a.int?,b.int? with
     |some a,some b=>some (⟨a,b⟩:Wait)
     |_,_=>none
   |_=>none
/-! ### lists, side by side -/
inductive All2 {α β:Type} (R:α→β→Prop):List α→List β→Prop where
 |nil:All2 R [] []
 |cons {a:α} {b:β} {l:List α} {m:List β}:R a b→All2 R l m→All2 R (a::l) (b::m)
section
variable{α β γ:Type}{R:α→β→Prop}
theorem All2.length{l:List α}{m:List β}(h:All2 R l m):l.length=m.length:=by
 induction h with
 |nil=>rfl
 |cons _ _ ih=>simp[ih]
theorem All2.get{l:List α}{m:List β}(h:All2 R l m):∀{i:Nat} {a:α},l[i]?=some a→∃b,m[i]?=some b∧R a b:=by
 induction h with
 |nil=>intro i a h;simp at h
 | cons h1 _ ih =>
   intro i a h
   cases i with
   |zero=>simp at h;subst h;exact⟨_,rfl,h1⟩
   |succ i=>simp only[List.getElem?_cons_succ]at h ⊢;exact ih h
theorem All2.get'{l:List α}{m:List β}(h:All2 R l m):∀{i:Nat} {b:β},m[i]?=some b→∃a,l[i]?=some a∧R a b:=by
 induction h with
 |nil=>intro i a h;simp at h
 | cons h1 _ ih =>
   intro i a h
   cases i with
   |zero=>simp at h;subst h;exact⟨_,rfl,h1⟩
   |succ i=>simp only[List.getElem?_cons_succ]at h ⊢;exact ih h
theorem All2.of{l:List α}{m:List β}(hl:l.length=m.length)(h:∀(i:Nat) a b,l[i]?=some a→m[i]?=some b→R a b):All2 R l m:=by
 induction l generalizing m with
 |nil=>cases m with |nil=>exact .nil |cons _ _=>simp at hl
 | cons a l ih =>
   cases m with
   |nil=>simp at hl
   |cons b m=>exact .cons (h 0 a b rfl rfl) (ih (by simpa using hl) fun i x y hx hy=>h (i+1) x y (by simpa using hx) (by simpa using hy))
theorem All2.mono{S:α→β→Prop}{l:List α}{m:List β}(h:All2 R l m)(hs:∀a b,a∈l→R a b→S a b):All2 S l m:=by
 induction h with
 |nil=>exact .nil
 |cons h1 _ ih=>exact .cons (hs _ _ List.mem_cons_self h1) (ih fun a b ha=>hs a b (List.mem_cons_of_mem _ ha))
theorem All2.append{l l':List α}{m m':List β}(h:All2 R l m)(h':All2 R l' m'):All2 R (l++l') (m++m'):=by
 induction h with
 |nil=>exact h'
 |cons h1 _ ih=>exact .cons h1 ih
theorem All2.take{l:List α}{m:List β}(h:All2 R l m):∀n,All2 R (l.take n) (m.take n):=by
 induction h with
 |nil=>intro n;simp;exact .nil
 |cons h1 _ ih=>intro n;cases n with |zero=>exact .nil |succ n=>exact .cons h1 (ih n)
theorem All2.drop{l:List α}{m:List β}(h:All2 R l m):∀n,All2 R (l.drop n) (m.drop n):=by
 induction h with
 |nil=>intro n;simp;exact .nil
 |cons h1 h2 ih=>intro n;cases n with |zero=>exact .cons h1 h2 |succ n=>exact ih n
theorem All2.map_left{f:γ→α}{l:List γ}{m:List β}:All2 R (l.map f) m↔All2 (fun a b=>R (f a) b) l m:=by
 constructor
 · intro h
   induction l generalizing m with
   |nil=>cases h;exact .nil
   |cons a l ih=>cases h with |cons h1 h2=>exact .cons h1 (ih h2)
 · intro h
   induction h with
   |nil=>exact .nil
   |cons h1 _ ih=>exact .cons h1 ih
theorem All2.set{l:List α}{m:List β}(h:All2 R l m){a:α}{b:β}(hr:R a b)(i:Nat):All2 R (l.set i a) (m.set i b):=by
 induction h generalizing i with
 |nil=>exact .nil
 |cons h1 h2 ih=>cases i with |zero=>exact .cons hr h2 |succ i=>exact .cons h1 (ih i)
end
/-! ### data in memory -/
abbrev Mem:=Nat→Option Obj
def HIn(H:Mem)(w:World):Prop:=∀k o,H k=some o→w.heap[k]?=some o
def HLe(H H':Mem):Prop:=∀k o,H k=some o→H' k=some o
theorem HLe.refl(H:Mem):HLe H H:=fun _ _ h=>h
theorem HLe.trans{A B C:Mem}(h:HLe A B)(k:HLe B C):HLe A C:=fun i o x=>k i o (h i o x)
inductive PR (H:Mem):PD→Value→Prop where
 |int (k:IntKind) (n:Int):PR H (.int k n) (.int k n)
 |bool (b:Bool):PR H (.bool b) (.bool b)
 |str (s:Str):PR H (.str s) (.string (bs s))
 |v (x:Value) (h:x.oneCell'=true):PR H (.v x) x
 |fl (o:Option Nat) (x:Nat) (h:∀y,o=some y→y=x):PR H (.fl o) (.float .f64 x)
 |cx (o:Option (Nat×Nat)) (x y:Nat) (h:∀p,o=some p→p=(x,y)):PR H (.cx o) (.complex .f64 x y)
 |err (t:TypeId) (x:Value):PR H .err (.iface t x)
 |emp (t:ETy) (ao:Option Addr) (cap:Nat) (h:ao=none→cap=0):PR H (.lst t []) (.slice ao 0 cap)
 | lst (t:ETy) (l:List t.den) (b off cap:Nat) (cells:Array Value) (e:TypeId) (fr:Nat×Nat) (hb:H b=some (.cells cells e fr)) (hc:l.length≤cap) (hm:cap≤maxLen) (hs:off+l.length * t.size≤cells.size)
    (h:∀i x,l[i]?=some x→∀j p,(t.enc x)[j]?=some p→∀u,cells[off+i * t.size+j]?=some u→PR H p u):PR H (.lst t l) (.slice (some ⟨b,off,none⟩) l.length cap)
 | ref (t:ETy) (x:t.den) (o b off:Nat) (cells:Array Value) (e:TypeId) (fr:Nat×Nat) (hb:H b=some (.cells cells e fr)) (hs:off+t.size≤cells.size)
    (h:∀j p,(t.enc x)[j]?=some p→∀u,cells[off+j]?=some u→PR H p u):PR H (.ref t x o) (.pointer (some ⟨b,off+o,none⟩))
 |buf (e:TypeId) (s:Str) (b cap:Nat) (cells:Array Value) (hb:H b=some (.cells cells e (0,s.length))) (h0:s≠[]) (hc:s.length≤cap) (hm:cap≤maxLen) (hs:s.length≤cells.size) (h:∀(j:Nat) (x:UInt8),s[j]?=some x→cells[j]?=some (Value.int .u8 x.toNat)):PR H (.buf e s) (.slice (some ⟨b,0,none⟩) s.length cap)
 | fnAt (l:List (Nat×List PD)) (k b:Nat) (cells:Array Value) (e:TypeId) (fr:Nat×Nat) (uss:Nat→List Value) (hb:H b=some (.cells cells e fr))
    (hc:∀(i:Nat) (q:Nat×List PD),l[i]?=some q→cells[i]?=some (.func (.func q.1) #[] (uss i).toArray)∧(uss i).length=q.2.length) (h:∀(i:Nat) (q:Nat×List PD),l[i]?=some q→∀(j:Nat) (p:PD),q.2[j]?=some p→∀u,(uss i)[j]?=some u→PR H p u):PR H (.fnAt l k) (.pointer (some ⟨b,k,none⟩))
 | fns (l:List (Nat×List PD)) (b cap:Nat) (cells:Array Value) (e:TypeId) (fr:Nat×Nat) (uss:Nat→List Value) (hb:H b=some (.cells cells e fr)) (hcap:l.length≤cap)
    (hc:∀(i:Nat) (q:Nat×List PD),l[i]?=some q→cells[i]?=some (.func (.func q.1) #[] (uss i).toArray)∧(uss i).length=q.2.length) (h:∀(i:Nat) (q:Nat×List PD),l[i]?=some q→∀(j:Nat) (p:PD),q.2[j]?=some p→∀u,(uss i)[j]?=some u→PR H p u):PR H (.fns l) (.slice (some ⟨b,0,none⟩) l.length cap)
 |tbl (l:List (Str×Nat)) (r:Nat) (es:Array MapEntry) (clock:Nat) (hb:H r=some (.map es clock)) (h:es.toList.map (fun e=>(e.key,e.val))=l.map fun p=>(Value.string (bs p.1),Value.func (.func p.2) #[] #[])):PR H (.tbl l) (.map (some r))
def HKe(H H':Mem):Prop:=∀k o,H k=some o→(∀q,o≠.deferred q)→H' k=some o
theorem HLe.ke{H H':Mem}(h:HLe H H'):HKe H H':=fun k o hk _=>h k o hk
theorem PR.keep{H H':Mem}(hl:HKe H H'){p:PD}{u:Value}(h:PR H p u):PR H' p u:=by
 induction h with
 |int k n=>exact .int k n
 |bool b=>exact .bool b
 |str s=>exact .str s
 |v x h=>exact .v x h
 |fl o x h=>exact .fl o x h
 |cx o x y h=>exact .cx o x y h
 |err t x=>exact .err t x
 |tbl l r es clock hb h=>exact .tbl l r es clock (hl _ _ hb (by simp)) h
 |buf e s b cap cells hb h0 hc hm hs h=>exact .buf e s b cap cells (hl _ _ hb (by simp)) h0 hc hm hs h
 |fnAt l k b cells e fr uss hb hc _ ih=>exact .fnAt l k b cells e fr uss (hl _ _ hb (by simp)) hc ih
 |fns l b cap cells e fr uss hb hcap hc _ ih=>exact .fns l b cap cells e fr uss (hl _ _ hb (by simp)) hcap hc ih
 |emp t ao cap h=>exact .emp t ao cap h
 |lst t l b off cap cells e fr hb hc hm hs _ ih=>exact .lst t l b off cap cells e fr (hl _ _ hb (by simp)) hc hm hs ih
 |ref t x o b off cells e fr hb hs _ ih=>exact .ref t x o b off cells e fr (hl _ _ hb (by simp)) hs ih
theorem PR.mono{H H':Mem}(hl:HLe H H'){p:PD}{u:Value}(h:PR H p u):PR H' p u:=PR.keep hl.ke h
theorem PR.one{H:Mem}{p:PD}{u:Value}(h:PR H p u):u.oneCell'=true:=by
 cases h <;> first |rfl |assumption
theorem PD.int?_eq{p:PD}{n:Int}(h:p.int?=some n):p = .i n:=by
 unfold PD.int? at h;split at h <;> simp_all
theorem PD.u8?_eq{p:PD}{n:Int}(h:p.u8?=some n):p = .int .u8 n:=by
 unfold PD.u8? at h;split at h <;> simp_all
theorem PD.str?_eq{p:PD}{n:Str}(h:p.str?=some n):p = .str n:=by
 unfold PD.str? at h;split at h <;> simp_all
theorem PD.bool?_eq{p:PD}{n:Bool}(h:p.bool?=some n):p = .bool n:=by
 unfold PD.bool? at h;split at h <;> simp_all
theorem PD.lst?_PR{t:ETy}{p:PD}{l:List t.den}(h:p.lst? t=some l){H:Mem}{u:Value}(hp:PR H p u):PR H (.lst t l) u:=by
 unfold PD.lst? at h
 split at h
 · rename_i t' l'
   split at h
   ·rename_i e;subst e;simp at h;subst h;exact hp
   ·simp at h
 ·simp at h;subst h;cases hp;exact .emp t none 0 (fun _=>rfl)
 ·simp at h
def Reads(p q:PD):Prop:=∀(H:Mem) (u:Value),PR H p u→PR H q u
theorem Reads.int{p:PD}{n:Int}(h:p.int?=some n):Reads p (.i n):=fun _ _ hp=>by rw[←PD.int?_eq h];exact hp
theorem Reads.u8{p:PD}{n:Int}(h:p.u8?=some n):Reads p (.int .u8 n):=fun _ _ hp=>by rw[←PD.u8?_eq h];exact hp
theorem Reads.str{p:PD}{n:Str}(h:p.str?=some n):Reads p (.str n):=fun _ _ hp=>by rw[←PD.str?_eq h];exact hp
theorem Reads.bool{p:PD}{n:Bool}(h:p.bool?=some n):Reads p (.bool n):=fun _ _ hp=>by rw[←PD.bool?_eq h];exact hp
theorem Reads.lst{p:PD}{t:ETy}{l:List t.den}(h:p.lst? t=some l):Reads p (.lst t l):=fun _ _ hp=>PD.lst?_PR h hp
theorem ETy.dec_reads{t:ETy}{ps:List PD}{x:t.den}(h:t.dec ps=some x):All2 Reads ps (t.enc x):=by
 cases t <;> simp only[ETy.dec]at h <;> (repeat' (split at h)) <;> try (simp at h;done)
 all_goals try (simp only[Option.some.injEq]at h;subst h)
 all_goals
  (repeat' (first |exact All2.nil |refine All2.cons ?_ ?_))
  all_goals first |exact Reads.int (by assumption) |exact Reads.u8 (by assumption) |exact Reads.str (by assumption) |exact Reads.bool (by assumption) |exact Reads.lst (by assumption)
theorem All2.reads{ps qs:List PD}(h:All2 Reads ps qs){H:Mem}{us:List Value}(hp:All2 (PR H) ps us):All2 (PR H) qs us:=by
 induction h generalizing us with
 |nil=>exact hp
 |cons h1 _ ih=>cases hp with |cons g1 g2=>exact .cons (h1 H _ g1) (ih g2)
theorem ETy.dec_PR{t:ETy}{ps:List PD}{x:t.den}(h:t.dec ps=some x){H:Mem}{us:List Value}(hp:All2 (PR H) ps us):All2 (PR H) (t.enc x) us:=(ETy.dec_reads h).reads hp
end Go.Ev
