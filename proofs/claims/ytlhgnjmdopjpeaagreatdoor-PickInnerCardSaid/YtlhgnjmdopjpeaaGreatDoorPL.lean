/- An executor for function bodies of the model over data, part PL: blocks given to those that only read; calls. Conditions: those that a contract tells. -/
import Derived.Test.YtlhgnjmdopjpeaaGreatDoorPK
namespace Go.Ev
open Go.RowKit
/-! ### a block, put into the memory that nobody writes -/
inductive Frz where
 |own (i:Nat) (t:ETy) (l:List t.den)
 |row (i:Nat) (q:Nat→PD)
def RC.frz(z:Frz):RC→RC
 | .loc j off=>match z with
   |.row i q=>bif Nat.beq i j then .pd (q off)else .loc j off
   |_=>.loc j off
 |s=>s
def SC.frz(z:Frz):SC→SC
 | .loc j off=>match z with
   |.row i q=>bif Nat.beq i j then .pd (q off)else .loc j off
   |_=>.loc j off
 | .own j=>match z with
   |.own i t l=>bif Nat.beq i j then .pd (.lst t l)else .own j
   |_=>.own j
 |.fn f a b=>.fn f (a.map (RC.frz z)) (b.map (RC.frz z))
 |s=>s
def SX.frz(z:Frz):SX→SX
 |.c s=>.c (s.frz z)
 |.agg cs=>.agg (cs.map (SC.frz z))
def SV.frz(z:Frz):SV→SV
 |.x s=>.x (s.frz z)
 |.tup l=>.tup (l.map (SX.frz z))
 |.grd s w v=>.grd s w (v.frz z)
def Chunk.frz(z:Frz):Chunk→Chunk
 |.cells cs e=>.cells (cs.map (SC.frz z)) e
 |c=>c
def Frz.ok(V:Vn):Frz→Prop
 |.own i t l=>PR V.H (.lst t l) (V.ov i)
 |.row i q=>∀off,PR V.H (q off) (.pointer (some ⟨V.σ i,off,none⟩))
section
variable{V:Vn}{z:Frz}
theorem RC.R_frz(hz:z.ok V){s:RC}{u:Value}(h:s.R V u):(s.frz z).R V u:=by
 cases s with
 |pd p=>exact h
 | loc j off =>
   cases z with
   |own i t l=>exact h
   | row i q =>
     simp only[RC.frz]
     cases hb:Nat.beq i j
     ·exact h
     · have:=ak hb
       subst this
       have hu:u=_:=h
       subst hu
       exact hz off
theorem SC.R_frz(hz:z.ok V){s:SC}{u:Value}(h:s.R V u):(s.frz z).R V u:=by
 cases s with
 |pd p=>exact h
 |oat i j sz o=>exact h
 | loc j off =>
   cases z with
   |own i t l=>exact h
   | row i q =>
     simp only[SC.frz]
     cases hb:Nat.beq i j
     ·exact h
     · have:=ak hb
       subst this
       have hu:u=_:=h
       subst hu
       exact hz off
 | own j =>
   cases z with
   |row i q=>exact h
   | own i t l =>
     simp only[SC.frz]
     cases hb:Nat.beq i j
     ·exact h
     · have:=ak hb
       subst this
       have hu:u=_:=h
       subst hu
       exact hz
 | fn f a b =>
   obtain⟨ua,ub,e,h1,h2⟩:=h
   refine⟨ua,ub,e,?_,?_⟩
   ·rw[All2.map_left];exact h1.mono fun _ _ _ hab=>RC.R_frz hz hab
   ·rw[All2.map_left];exact h2.mono fun _ _ _ hab=>RC.R_frz hz hab
theorem SX.R_frz(hz:z.ok V){s:SX}{u:Value}(h:s.R V u):(s.frz z).R V u:=by
 cases s with
 |c s=>exact SC.R_frz hz h
 | agg cs =>
   obtain⟨us,e,h1⟩:=h
   exact⟨us,e,by rw[All2.map_left];exact h1.mono fun _ _ _ hab=>SC.R_frz hz hab⟩
theorem cO.frz(hz:z.ok V){a:Act}{t:Nat}{sv:SV}(h:cO V a t sv):cO V a t (sv.frz z):=by
 cases sv with
 |x s=>exact SX.R_frz hz h
 | tup l =>
   obtain⟨us,e,h1⟩:=h
   exact⟨us,e,by rw[All2.map_left];exact h1.mono fun _ _ _ hab=>SX.R_frz hz hab⟩
 |grd s b v=>exact⟨fun hb=>SX.R_frz hz (h.1 hb),h.2⟩
theorem Chunk.blk_frz{i:Nat}(c:Chunk):(c.frz z).blk V i=c.blk V i:=by cases c <;> rfl
theorem Chunk.holds_frz(hz:z.ok V){w:World}{i:Nat}{c:Chunk}(h:c.holds V w i):(c.frz z).holds V w i:=by
 cases c with
 |dead=>trivial
 |own e t l=>exact h
 |obj o=>exact h
 | cells cs e =>
   obtain⟨us,h1,h2⟩:=h
   exact⟨us,h1,by rw[All2.map_left];exact h2.mono fun _ _ _ hab=>SC.R_frz hz hab⟩
end
def xl(z:Frz)(i:Nat)(st:ST):ST:={st with fr:=st.fr.map (fun p=>(p.1,p.2.frz z)),ck:=(st.ck.set i .dead).map (Chunk.frz z)}
def sq:List RC→Option (List PD)
 |[]=>some []
 |.pd p::r=>(sq r).map (p::·)
 |_::_=>none
def Mf:SC→Option (Nat×List PD)
 |.fn (.func f) [] b=>(sq b).map fun ps=>(f,ps)
 |_=>none
def oS:List SC→Option (List (Nat×List PD))
 |[]=>some []
 | s::r=>match Mf s,oS r with
   |some q,some l=>some (q::l)
   |_,_=>none
theorem sY{V:Vn}:∀{b:List RC} {ps:List PD},sq b=some ps→∀{us:List Value},All2 (RC.R V) b us→All2 (PR V.H) ps us
 |[],ps,h,us,hu=>by simp[sq]at h;subst h;cases hu;exact .nil
 | .pd p::b,ps,h,us,hu=>by
   simp only[sq,aj]at h
   obtain⟨l,h1,rfl⟩:=h
   cases hu with |cons g1 g2=>exact .cons g1 (sY h1 g2)
 |.loc _ _::b,ps,h,us,hu=>by simp[sq]at h
theorem Gv{V:Vn}{s:SC}{q:Nat×List PD}(h:Mf s=some q){u:Value}(hu:s.R V u):∃ub:List Value,u = .func (.func q.1) #[] ub.toArray∧All2 (PR V.H) q.2 ub:=by
 unfold Mf at h
 split at h
 · simp only[aj]at h
   obtain⟨ps,h1,rfl⟩:=h
   obtain⟨ua,ub,e,k1,k2⟩:=hu
   cases k1
   exact⟨ub,e,sY h1 k2⟩
 ·simp at h
theorem mY{V:Vn}:∀{cs:List SC} {l:List (Nat×List PD)},oS cs=some l→∀{us:List Value},All2 (SC.R V) cs us →
 l.length=us.length∧∃uss:Nat→List Value,∀(i:Nat) (q:Nat×List PD),l[i]?=some q→us[i]?=some (.func (.func q.1) #[] (uss i).toArray)∧All2 (PR V.H) q.2 (uss i)
 |[],l,h,us,hu=>by simp[oS]at h;subst h;cases hu;exact⟨rfl,fun _=>[],fun i q hq=>by simp at hq⟩
 | s :: cs,l,h,us,hu=>by
   simp only[oS]at h
   split at h
   · rename_i q0 l' h1 h2
     simp only[aa]at h;subst h
     cases hu with
     | cons g1 g2 =>
       obtain⟨hl,uss,hus⟩:=mY h2 g2
       obtain⟨ub,e,k2⟩:=Gv h1 g1
       subst e
       refine⟨by simp[hl],fun i=>match i with |0=>ub |i+1=>uss i,fun i q hq=>?_⟩
       cases i with
       |zero=>simp at hq;subst hq;exact⟨by simp,k2⟩
       |succ i=>exact hus i q (by simpa using hq)
   ·simp at h
def Gy(tys:Tys)(st:ST)(i:Nat):Option Frz :=
 match st.ck[i]? with
 |some (.own _ t l)=>some (.own i t l)
 | some (.cells cs e)=>match Hz tys e with
   | some t=>match(jj cs).bind t.dec with
     |some x=>some (.row i (fun off=>.ref t x off))
     |none=>none
   |none=>(oS cs).map fun l=>.row i (fun off=>.fnAt l off)
 |_=>none
def sb(tys:Tys):ST→List SX→List Nat→Option (ST×List SX)
 |st,as,[]=>some (st,as)
 | st,as,i::r=>match Gy tys st i with
   |some z=>bif st.wf then sb tys (xl z i st) (as.map (SX.frz z)) r else none
   |none=>none
def tz(tys:Tys)(st:ST)(l:List Nat):Option ST:=(sb tys st [] l).map (·.1)
def GC(ck:List Chunk)(i:Nat):Bool:=match ck[i]? with |some (.own _ _ _)=>true |_=>false
def order(ck:List Chunk)(l:List Nat):List Nat:=let r:=c8 ck l;r.filter (GC ck)++r.filter (fun i=>!GC ck i)
section
variable{Γ:Ctx}{st:ST}{V:Vn}{a:Act}{w:World}{tys:Tys}{P:Program}
theorem ot(r:Rel Γ st V a w)(hwf:st.wf=true){z:Frz}{i:Nat}{H':Mem}(hle:HLe V.H H')(hw:WOk Γ (st.ck.set i .dead) ⟨H',V.σ,V.ov⟩ w)(hz:z.ok ⟨H',V.σ,V.ov⟩):Rel Γ (xl z i st) ⟨H',V.σ,V.ov⟩ a w:=by
 have hag:Agree st.ck.length V ⟨H',V.σ,V.ov⟩:=⟨hle,fun _ _=>⟨rfl,rfl⟩⟩
 simp only[ST.wf,af]at hwf
 have hget:∀(j:Nat) c,((st.ck.set i .dead).map (Chunk.frz z))[j]?=some c→∃c0,(st.ck.set i .dead)[j]?=some c0∧c=c0.frz z:=by
  intro j c hc
  rw[List.getElem?_map,aj]at hc
  obtain⟨c0,h1,rfl⟩:=hc
  exact⟨c0,h1,rfl⟩
 refine{size:=r.size,defers:=r.defers,slots:=?_,wok:={ext:=hw.ext,imm:=hw.imm,hle:=hw.hle,frz:=hw.frz,agr:=hw.agr,own:=?_,base:=?_,inj:=?_},few:=⟨r.few.1,?_⟩}
 · intro t sv hm
   obtain⟨⟨t',sv'⟩,h5,h6⟩:=aM.1 hm
   simp only[ae]at h6
   obtain⟨rfl,rfl⟩:=h6
   exact((r.slots _ _ h5).agree hag (an.1 hwf.1 _ h5)).frz hz
 · intro j c hc
   obtain⟨c0,h1,rfl⟩:=hget j c hc
   exact Chunk.holds_frz hz (hw.own j c0 h1)
 · intro j c b hc hb
   obtain⟨c0,h1,rfl⟩:=hget j c hc
   rw[Chunk.blk_frz]at hb
   exact hw.base j c0 b h1 hb
 · intro j k c d b hc hd hb1 hb2
   obtain⟨c0,h1,rfl⟩:=hget j c hc
   obtain⟨d0,h2,rfl⟩:=hget k d hd
   rw[Chunk.blk_frz]at hb1 hb2
   exact hw.inj j k c0 d0 b h1 h2 hb1 hb2
 · show st.m≤((st.ck.set i .dead).map (Chunk.frz z)).length
   rw[aP,bA];exact r.few.2
theorem RC.R_keep{V':Vn}(h1:V'.σ=V.σ)(hle:HKe V.H V'.H){s:RC}{u:Value}(h:s.R V u):s.R V' u:=by
 cases s with
 |pd p=>exact PR.keep hle h
 |loc i o=>show u=_;rw[h1];exact h
theorem SC.R_keep{V':Vn}(h1:V'.σ=V.σ)(h2:V'.ov=V.ov)(hle:HKe V.H V'.H){s:SC}{u:Value}(h:s.R V u):s.R V' u:=by
 cases s with
 |pd p=>exact PR.keep hle h
 |loc i o=>show u=_;rw[h1];exact h
 |own i=>show u=_;rw[h2];exact h
 |oat i j sz o=>show u=_;rw[h1];exact h
 |fn f a b=>obtain⟨ua,ub,e,g1,g2⟩:=h;exact⟨ua,ub,e,g1.mono fun _ _ _ hab=>RC.R_keep h1 hle hab,g2.mono fun _ _ _ hab=>RC.R_keep h1 hle hab⟩
theorem SX.R_keep{V':Vn}(h1:V'.σ=V.σ)(h2:V'.ov=V.ov)(hle:HKe V.H V'.H){s:SX}{u:Value}(h:s.R V u):s.R V' u:=by
 cases s with
 |c s=>exact SC.R_keep h1 h2 hle h
 |agg cs=>obtain⟨us,e,g1⟩:=h;exact⟨us,e,g1.mono fun _ _ _ hab=>SC.R_keep h1 h2 hle hab⟩
theorem RC.R_mono{V':Vn}(h1:V'.σ=V.σ)(hle:HLe V.H V'.H){s:RC}{u:Value}(h:s.R V u):s.R V' u:=RC.R_keep h1 hle.ke h
theorem SC.R_mono{V':Vn}(h1:V'.σ=V.σ)(h2:V'.ov=V.ov)(hle:HLe V.H V'.H){s:SC}{u:Value}(h:s.R V u):s.R V' u:=SC.R_keep h1 h2 hle.ke h
theorem SX.R_mono{V':Vn}(h1:V'.σ=V.σ)(h2:V'.ov=V.ov)(hle:HLe V.H V'.H){s:SX}{u:Value}(h:s.R V u):s.R V' u:=SX.R_keep h1 h2 hle.ke h
theorem Jy (r:Rel Γ st V a w) (hwf:st.wf=true) {i:Nat} {z:Frz} (h:Gy tys st i=some z):∃V',V'.σ=V.σ∧V'.ov=V.ov∧HLe V.H V'.H∧z.ok V'∧Rel Γ (xl z i st) V' a w:=by
 unfold Gy at h
 split at h
 · rename_i e t l hc
   simp only[aa]at h
   subst h
   obtain⟨H',h1,h2,h3⟩:=r.wok.freezeOwn hc
   exact⟨⟨H',V.σ,V.ov⟩,rfl,rfl,h1,h3,ot r hwf h1 h2 h3⟩
 · rename_i cs e hc
   split at h
   · rename_i t ht
     split at h
     · rename_i x hx
       simp only[bm]at hx
       obtain⟨ps,h1,h2⟩:=hx
       simp only[aa]at h
       subst h
       obtain⟨us,g1,g2⟩:=r.wok.own i _ hc
       obtain⟨k1,k2,k3⟩:=r.wok.freeze hc (g:=V.σ i) rfl g1
       have g3:=ETy.dec_PR h2 (kL h1 g2)
       have hok:(Frz.row i (fun off=>.ref t x off)).ok ⟨fun k=>if k=V.σ i then some (.cells us.toArray e (0,0))else V.H k,V.σ,V.ov⟩:=fun off=>by
        have:=PR.ref (H:=fun k=>if k=V.σ i then some (.cells us.toArray e (0,0))else V.H k) t x off (V.σ i) 0 us.toArray e (0,0) (by simp) (by rw[ba,←t.enc_length x,g3.length];simp) (fun j p hp u hu=>by
         obtain⟨u',g4,g5⟩:=g3.get hp
         rw[ba]at hu
         have:us[j]?=some u:=by simpa using hu
         rw[g4]at this
         simp only[aa]at this
         subst this
         exact g5.mono k1)
        rw[ba]at this
        exact this
       exact⟨⟨fun k=>if k=V.σ i then some (.cells us.toArray e (0,0))else V.H k,V.σ,V.ov⟩,rfl,rfl,k1,hok,ot r hwf k1 k3 hok⟩
     ·simp at h
   · simp only[aj]at h
     obtain⟨l,hl,rfl⟩:=h
     obtain⟨us,g1,g2⟩:=r.wok.own i _ hc
     obtain⟨k1,k2,k3⟩:=r.wok.freeze hc (g:=V.σ i) rfl g1
     obtain⟨_,uss,hus⟩:=mY hl g2
     have hok:(Frz.row i (fun off=>.fnAt l off)).ok ⟨fun k=>if k=V.σ i then some (.cells us.toArray e (0,0))else V.H k,V.σ,V.ov⟩:=fun off =>
      PR.fnAt (H:=fun k=>if k=V.σ i then some (.cells us.toArray e (0,0))else V.H k) l off (V.σ i) us.toArray e (0,0) uss (by simp) (fun i q hq=>⟨by simpa using(hus i q hq).1,(hus i q hq).2.length.symm⟩) (fun i q hq j p hp u hu=>by
       obtain⟨u',g4,g5⟩:=(hus i q hq).2.get hp
       rw[hu]at g4
       simp only[aa]at g4
       subst g4
       exact g5.mono k1)
     exact⟨⟨fun k=>if k=V.σ i then some (.cells us.toArray e (0,0))else V.H k,V.σ,V.ov⟩,rfl,rfl,k1,hok,ot r hwf k1 k3 hok⟩
 ·simp at h
theorem qJ:∀{l:List Nat} {st:ST} {as:List SX} {V:Vn} {st':ST} {as':List SX} {vs:List Value},Rel Γ st V a w→All2 (SX.R V) as vs→sb tys st as l=some (st',as') →
 ∃V',V'.σ=V.σ∧V'.ov=V.ov∧HLe V.H V'.H∧All2 (SX.R V') as' vs∧Rel Γ st' V' a w
 |[],st,as,V,st',as',vs,r,hv,h=>by simp[sb]at h;obtain⟨rfl,rfl⟩:=h;exact⟨V,rfl,rfl,HLe.refl _,hv,r⟩
 | i :: l,st,as,V,st',as',vs,r,hv,h=>by
   simp only[sb]at h
   split at h
   · rename_i z hz
     cases hwf:st.wf
     ·rw[hwf]at h;simp at h
     · rw[hwf]at h
       simp only[cond_true]at h
       obtain⟨V1,e1,e2,e3,e4,r1⟩:=Jy r hwf hz
       obtain⟨V2,f1,f2,f3,f4,r2⟩:=qJ r1 (by rw[All2.map_left];exact hv.mono fun _ _ _ hab=>SX.R_frz e4 (SX.R_mono e1 e2 e3 hab)) h
       exact⟨V2,f1.trans e1,f2.trans e2,e3.trans f3,f4,r2⟩
   ·simp at h
end
theorem tA{Γ:Ctx}{st:ST}{V:Vn}{a:Act}{w:World}{tys:Tys}{l:List Nat}{st':ST}(r:Rel Γ st V a w)(h:tz tys st l=some st'):∃V',Rel Γ st' V' a w:=by
 simp only[tz,aj]at h
 obtain⟨⟨st1,as⟩,h1,rfl⟩:=h
 obtain⟨V',_,_,_,_,r'⟩:=qJ (vs:=[]) r .nil h1
 exact⟨V',r'⟩
/-! ### calls -/
structure Cfg where
 tys:Tys
 tab:Tab
def RC.sx:RC→SX
 |.pd p=>.c (.pd p)
 |.loc i off=>.c (.loc i off)
def o4:List (Option SX)→Option (List SX)
 |[]=>some []
 |some x::r=>(o4 r).map (x::·)
 |none::_=>none
def MV(P:Program)(tys:Tys)(t:TypeId):SX→SX
 | .c (.pd (.v (.slice none 0 0)))=>match P.underlying t with
   | some (.slice e)=>match Hz tys e with
     |some ty=>.c (.pd (.lst ty []))
     |none=>.c (.pd (.v (.slice none 0 0)))
   |_=>.c (.pd (.v (.slice none 0 0)))
 |x=>x
def vD(P:Program)(tys:Tys):List TypeId→List SX→List SX
 |t::ts,x::xs=>MV P tys t x::vD P tys ts xs
 |_,xs=>xs
def M6(P:Program)(f:Nat):List TypeId:=match P.funcs[f]? with |some fn=>fn.params.toList |none=>[]
def callee(P:Program)(tys:Tys)(st:ST)(g:Option (Nat×Bool)):Op→Option (Nat×List SX)
 | .call {callee:=.value x,args:=args,argTypes:=_}=>match bt st g x,o4 (args.toList.map (bt st g))with
   |some (.c (.fn (.func f) a b)),some vs=>some (f,a.map RC.sx++vD P tys (M6 P f) vs++b.map RC.sx)
   |_,_=>none
 |_=>none
def vq:PD→Bool
 |.lst _ _=>false
 |.ref _ _ _=>false
 |.tbl _=>false
 |.buf _ _=>false
 |.fnAt _ _=>false
 |.fns _=>false
 |_=>true
def jv:SC→Bool
 |.pd p=>vq p
 |_=>false
def Gu:SX→Bool
 |.c s=>jv s
 |.agg cs=>cs.all jv
def AC:SV→Bool
 |.x s=>Gu s
 |.tup l=>l.all Gu
 |.grd _ _ _=>false
def jM:SV→Bool
 |.grd _ _ _=>false
 |_=>true
def goA (P:Program) (tab:Tab) (st:ST) (f:Nat) (args:List SX):Option (Option Prop×SV×List Chunk) :=
 let m:=c8 st.ck (args.flatMap SX.refs)
 match fu st.ck m with
 | some ck0=>bif gD m&&within m (args.flatMap SX.refs)&&within m (ck0.flatMap Chunk.refs)&&iZ P f&&st.wf then
    match su tab f (args.map (SX.map fun i=>c6 i m 0)) (ck0.map (Chunk.map fun i=>c6 i m 0))with
    | some (p,ret,ck2)=>bif Nat.ble m.length ck2.length&&jM ret then
       some (p,ret.map (back m st.ck.length),ei st.ck m (ck2.map (Chunk.map (back m st.ck.length)))++(ck2.drop m.length).map (Chunk.map (back m st.ck.length)))
      else none
    |none=>none
   else none
 |none=>none
def goB (P:Program) (cfg:Cfg) (st:ST) (f:Nat) (args:List SX):Option (Option Prop×SV) :=
 match sb cfg.tys st args (order st.ck (args.flatMap SX.refs))with
 | some (st',args')=>bif within [] (args'.flatMap SX.refs)then
    match goA P cfg.tab st' f args' with
    |some (p,ret,_)=>bif AC ret then some (p,ret)else none
    |none=>none
   else none
 |none=>none
section
variable{Γ:Ctx}{st:ST}{V:Vn}{a:Act}{w:World}{P:Program}{cfg:Cfg}
theorem rD(r:Rel Γ st V a w){g:Option (Nat×Bool)}(hg:fN a g):∀(l:List Operand) (vs:List SX),o4 (l.map (bt st g))=some vs→All2 (SX.R V) vs (l.map a.eval)
 |[],vs,h=>by simp[o4]at h;subst h;exact .nil
 | x :: l,vs,h=>by
   simp only[aq]at h
   cases hx:bt st g x with
   |none=>rw[hx]at h;simp[o4]at h
   | some sx =>
     rw[hx]at h
     simp only[o4,aj]at h
     obtain⟨l',h1,rfl⟩:=h
     exact .cons (aJ r hg hx) (rD r hg l l' h1)
theorem Kb{l:List RC}{us:List Value}(h:All2 (RC.R V) l us):All2 (SX.R V) (l.map RC.sx) us:=by
 rw[All2.map_left]
 exact h.mono fun s u _ hs=>by cases s <;> exact hs
theorem GT{tys:Tys}{t:TypeId}{x:SX}{u:Value}(h:x.R V u):(MV P tys t x).R V u:=by
 unfold MV
 split
 · split
   · split
     · have h2:PR V.H (.v (.slice none 0 0)) u:=h
       cases h2
       exact PR.emp _ none 0 (fun _=>rfl)
     ·exact h
   ·exact h
 ·exact h
theorem sX{tys:Tys}:∀{ts:List TypeId} {xs:List SX} {us:List Value},All2 (SX.R V) xs us→All2 (SX.R V) (vD P tys ts xs) us
 |[],_,_,h=>by simpa[vD]using h
 |t::ts,[],_,h=>by simpa[vD]using h
 | t::ts,x::xs,_,h=>by
   cases h with |cons h1 h2=>exact .cons (GT h1) (sX h2)
theorem CH{g:Nat}{args:Array Value}(h:iZ P g=true):(callFunc g args).run P w = .ok (.enter g args) w:=by
 unfold iZ at h
 split at h
 · rename_i fn hf
   simp only[af,aK]at h
   have hb:fn.body.isNone=false:=by cases hbb:fn.body <;> simp_all
   simp only[callFunc,Sem.run_bind,program,Sem.run,Result.andThen_ok,hf,h.1,dW,if_false,hb]
   rfl
 ·simp at h
theorem ja(r:Rel Γ st V a w){g:Option (Nat×Bool)}(hg:fN a g){o:Oper}{f:Nat}{args:List SX}{tys:Tys}(h:callee P tys st g o.op=some (f,args))(hf:iZ P f=true) :
 ∃vs,(execOp a.eval o).run P w = .ok (.enter f vs.toArray) w∧All2 (SX.R V) args vs:=by
 obtain⟨dst,op,ty,pos,after,guard⟩:=o
 simp only at h
 unfold callee at h
 split at h
 · rename_i x args' ts
   split at h
   · rename_i f' fa fb vs hx hv
     simp only[aa,ae]at h
     obtain⟨rfl,rfl⟩:=h
     obtain⟨ua,ub,e,h1,h2⟩:=aJ r hg hx
     have h3:=rD r hg _ _ hv
     refine⟨ua++args'.toList.map a.eval++ub,?_,((Kb h1).append (sX h3)).append (Kb h2)⟩
     have hargs':args'.map a.eval=(args'.toList.map a.eval).toArray:=by
      apply dQ.1
      rw[dc]
     simp only[execOp,resolve,hargs',e,Deferred.ofValue,Sem.run_bind,run_pure',Result.andThen_ok,invoke]
     have hall:ua.toArray++(args'.toList.map a.eval).toArray++ub.toArray=(ua++args'.toList.map a.eval++ub).toArray:=by
      apply dQ.1;simp
     rw[hall]
     exact CH hf
   ·simp at h
 ·simp at h
theorem ET{ρ:Nat→Nat}{V':Vn}{sv:SV}(h:∀s,Turned ρ V V' s){v:Value}(hr:sv.R V v):(sv.map ρ).R V' v:=by
 cases sv with
 |x s=>exact SX.R_map (h _) hr
 |tup l=>obtain⟨us,e,h1⟩:=hr;exact⟨us,e,lg (h _) h1⟩
 |grd s b v=>exact hr.elim
theorem qL(ht:TOk P cfg.tab Γ)(r:Rel Γ st V a w){f:Nat}{args:List SX}{p:Option Prop}{ret:SV}{ck':List Chunk}(h:goA P cfg.tab st f args=some (p,ret,ck'))(hp:Holds p){vs:List Value}(hv:All2 (SX.R V) args vs) :
 iZ P f=true∧jM ret=true∧Calls P f vs.toArray w fun e w'=>∃v V',e = .returned v∧ret.R V' v∧Agree st.ck.length V V'∧Fr (fun b=>∃(i:Nat) (c:Chunk),st.ck[i]?=some c∧c.blk V i=some b) w w'∧(c8 st.ck (args.flatMap SX.refs)=[]→Fr (fun _=>False) w w')∧WOk Γ ck' V' w':=by
 unfold goA at h
 simp only at h
 split at h
 · rename_i ck0 hpk
   generalize hm:c8 st.ck (args.flatMap SX.refs)=m at *
   cases hb:(gD m&&within m (args.flatMap SX.refs)&&within m (ck0.flatMap Chunk.refs)&&iZ P f&&st.wf)
   ·rw[hb]at h;simp at h
   · rw [hb]at h
     simp only[cond_true]at h
     simp only[af]at hb
     obtain⟨⟨⟨⟨h1,h2⟩,h3⟩,h4⟩,hwf⟩:=hb
     split at h
     · rename_i p' ret' ck2 htab
       cases hl:(Nat.ble m.length ck2.length&&jM ret')
       ·rw[hl]at h;simp at h
       · rw[hl]at h
         simp only[cond_true,aa,ae]at h
         obtain⟨rfl,rfl,rfl⟩:=h
         simp only[af]at hl
         have hlen:=aB hl.1
         refine⟨h4,by cases ret' <;> first |rfl |(simp[jM]at hl),?_⟩
         have hs:=KC ht.ok htab hp w (iy m V) vs (r.wok.lend hpk h3 h1) (ht.tabs.mono r.wok.hle) (lg (hU h2) hv)
         refine hs.mono fun e w' hq=>?_
         obtain⟨v,V2,rfl,hr,hw2⟩:=hq
         have hwf2:mc st.ck=true:=by simp only[ST.wf,af]at hwf;exact hwf.2
         obtain⟨V3,g1,g2,g3⟩:=r.wok.back hwf2 (aC r.few.1 r.few.2) hpk h3 h1 hw2 hlen
         have hpo:=nn (V:=V) (w:=w) r.wok.own hpk h3 h1
         refine⟨v,V3,rfl,ET g2 hr,g1,⟨hw2.ext.os,hw2.ext.tape,hw2.ext.output,hw2.ext.size,fun k hk hn=>hw2.ext.block k hk fun hMk=>?_⟩,fun hm0=>⟨hw2.ext.os,hw2.ext.tape,hw2.ext.output,hw2.ext.size,fun k hk _=>hw2.ext.block k hk fun hMk=>?_⟩,g3⟩
         · obtain⟨j,c,hc,hb⟩:=hMk
           obtain⟨_,i,c0,q1,q2,q3⟩:=hpo j c hc
           rw[q3]at hb
           exact hn ⟨i,c0,q2,hb⟩
         · obtain⟨j,c,hc,hb⟩:=hMk
           obtain⟨_,i,c0,q1,q2,q3⟩:=hpo j c hc
           rw[hm0]at q1;simp at q1
     ·simp at h
 ·simp at h
theorem Ju{H H':Mem}{p:PD}(h:vq p=true){u:Value}(hr:PR H p u):PR H' p u:=by
 cases hr with
 |int k n=>exact .int k n
 |bool b=>exact .bool b
 |str s=>exact .str s
 |v=>exact .v _ (by assumption)
 |fl o x h2=>exact .fl o x h2
 |cx o x y h2=>exact .cx o x y h2
 |err t x=>exact .err t x
 |tbl _ _ _ _ _ _=>cases h
 |buf=>cases h
 |fnAt=>cases h
 |fns=>cases h
 |emp t ao cap _=>simp[vq]at h
 |lst t l b off cap cells e fr _ _ _ _ _=>simp[vq]at h
 |ref t x o b off cells e fr _ _ _=>simp[vq]at h
theorem xV{V':Vn}{s:SC}(h:jv s=true){u:Value}(hr:s.R V u):s.R V' u:=by
 cases s <;> first |(simp[jv]at h;done) |exact Ju h hr
theorem xX{V':Vn}{s:SX}(h:Gu s=true){u:Value}(hr:s.R V u):s.R V' u:=by
 cases s with
 |c s=>exact xV h hr
 |agg cs=>obtain⟨us,e,h1⟩:=hr;exact⟨us,e,h1.mono fun a b ha hab=>xV (an.1 h a ha) hab⟩
theorem xW{V':Vn}{s:SV}(h:AC s=true){u:Value}(hr:s.R V u):s.R V' u:=by
 cases s with
 |x s=>exact xX h hr
 |tup l=>obtain⟨us,e,h1⟩:=hr;exact⟨us,e,h1.mono fun a b ha hab=>xX (an.1 h a ha) hab⟩
 |grd _ _ _=>exact hr
theorem WOk.kept{ck:List Chunk}(r:WOk Γ ck V w){w':World}(hf:Fr (fun _=>False) w w'):WOk Γ ck V w':=by
 have hold:∀b,b<w.heap.size→w'.heap[b]?=w.heap[b]?:=fun b hb=>hf.block b hb (fun h=>h)
 refine{ext:=⟨hf.os.trans r.ext.os,hf.tape.trans r.ext.tape,hf.output.trans r.ext.output,aC r.ext.size hf.size,fun k hk hn=>?_⟩,imm:=?_,hle:=r.hle,frz:=r.frz,agr:=r.agr,own:=?_,base:=r.base,inj:=r.inj}
 ·rw[←r.ext.block k hk hn];exact hold k (bW hk r.ext.size)
 · intro k o hk
   have:=r.imm k o hk
   rw[hold k (Array.getElem?_eq_some_iff.1 this).1];exact this
 · intro i c hc
   exact Chunk.holds_kept (r.own i c hc) fun b hb=>hold b (Chunk.blk_lt (r.own i c hc) hb)
theorem DD(ck:List Chunk):c8 ck []=[]:=by
 have h:∀n,reach ck n []=[]:=by intro n;induction n with |zero=>rfl |succ n ih=>simp[reach,ih]
 simp[c8,h]
theorem qM(ht:TOk P cfg.tab Γ)(r:Rel Γ st V a w){f:Nat}{args:List SX}{p:Option Prop}{ret:SV}(h:goB P cfg st f args=some (p,ret))(hp:Holds p){vs:List Value}(hv:All2 (SX.R V) args vs) :
 iZ P f=true∧jM ret=true∧Calls P f vs.toArray w fun e w'=>∃v,e = .returned v∧ret.R V v∧Fr (fun _=>False) w w'∧WOk Γ st.ck V w':=by
 unfold goB at h
 split at h
 · rename_i st' args' hfz
   cases hn:within [] (args'.flatMap SX.refs)
   ·rw[hn]at h;simp at h
   · rw [hn]at h
     simp only[cond_true]at h
     have hnil:args'.flatMap SX.refs=[]:=by
      cases hl:args'.flatMap SX.refs with
      |nil=>rfl
      |cons x l=>rw[hl]at hn;simp[within]at hn
     split at h
     · rename_i p' ret' ck' hA
       cases hfl:AC ret'
       ·rw[hfl]at h;simp at h
       · rw[hfl]at h
         simp only[cond_true,aa,ae]at h
         obtain⟨rfl,rfl⟩:=h
         obtain⟨V',e1,e2,e3,hv',r'⟩:=qJ r hv hfz
         obtain⟨h1,h2,h3⟩:=qL ht r' hA hp hv'
         refine⟨h1,h2,h3.mono fun e w' hq=>?_⟩
         obtain⟨v,V2,rfl,hr,_,_,hfr,_⟩:=hq
         have hf:=hfr (by rw[hnil];exact DD _)
         exact⟨v,rfl,xW hfl hr,hf,r.wok.kept hf⟩
     ·simp at h
 ·simp at h
end
end Go.Ev
