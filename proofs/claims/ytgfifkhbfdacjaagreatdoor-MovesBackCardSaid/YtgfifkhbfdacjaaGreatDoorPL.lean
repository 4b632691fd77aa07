/- An executor for function bodies of the model over data, part PL: blocks given to those that only read; calls. Conditions: those that a contract tells. -/
import Derived.Test.YtgfifkhbfdacjaaGreatDoorPK
namespace Go.Ev
open Go.RowKit
/-! ### a block, put into the memory that nobody writes -/
inductive Frz where
 | own (i:Nat) (t:ETy) (l:List t.den)
 | row (i:Nat) (q:Nat→PD)
def RC.frz (z:Frz):RC→RC
 | .loc j off=>match z with
   | .row i q=>bif Nat.beq i j then .pd (q off) else .loc j off
   | _=>.loc j off
 | s=>s
def SC.frz (z:Frz):SC→SC
 | .loc j off=>match z with
   | .row i q=>bif Nat.beq i j then .pd (q off) else .loc j off
   | _=>.loc j off
 | .own j=>match z with
   | .own i t l=>bif Nat.beq i j then .pd (.lst t l) else .own j
   | _=>.own j
 | .fn f a b=>.fn f (a.map (RC.frz z)) (b.map (RC.frz z))
 | s=>s
def SX.frz (z:Frz):SX→SX
 | .c s=>.c (s.frz z)
 | .agg cs=>.agg (cs.map (SC.frz z))
def SV.frz (z:Frz):SV→SV
 | .x s=>.x (s.frz z)
 | .tup l=>.tup (l.map (SX.frz z))
 | .grd s w v=>.grd s w (v.frz z)
def Chunk.frz (z:Frz):Chunk→Chunk
 | .cells cs e=>.cells (cs.map (SC.frz z)) e
 | c=>c
def Frz.ok (V:Vn):Frz→Prop
 | .own i t l=>PR V.H (.lst t l) (V.ov i)
 | .row i q=>∀ off,PR V.H (q off) (.pointer (some ⟨V.σ i,off,none⟩))
section
variable {V:Vn} {z:Frz}
theorem RC.R_frz (hz:z.ok V) {s:RC} {u:Value} (h:s.R V u):(s.frz z).R V u:=by
 cases s with
 | pd p=>exact h
 | loc j off =>
   cases z with
   | own i t l=>exact h
   | row i q =>
     simp only [RC.frz]
     cases hb:Nat.beq i j
     · exact h
     · have:=aj hb
       subst this
       have hu:u=_:=h
       subst hu
       exact hz off
theorem SC.R_frz (hz:z.ok V) {s:SC} {u:Value} (h:s.R V u):(s.frz z).R V u:=by
 cases s with
 | pd p=>exact h
 | oat i j sz o=>exact h
 | loc j off =>
   cases z with
   | own i t l=>exact h
   | row i q =>
     simp only [SC.frz]
     cases hb:Nat.beq i j
     · exact h
     · have:=aj hb
       subst this
       have hu:u=_:=h
       subst hu
       exact hz off
 | own j =>
   cases z with
   | row i q=>exact h
   | own i t l =>
     simp only [SC.frz]
     cases hb:Nat.beq i j
     · exact h
     · have:=aj hb
       subst this
       have hu:u=_:=h
       subst hu
       exact hz
 | fn f a b =>
   obtain ⟨ua,ub,e,h1,h2⟩:=h
   refine ⟨ua,ub,e,?_,?_⟩
   · rw [All2.map_left]; exact h1.mono fun _ _ _ hab=>RC.R_frz hz hab
   · rw [All2.map_left]; exact h2.mono fun _ _ _ hab=>RC.R_frz hz hab
theorem SX.R_frz (hz:z.ok V) {s:SX} {u:Value} (h:s.R V u):(s.frz z).R V u:=by
 cases s with
 | c s=>exact SC.R_frz hz h
 | agg cs =>
   obtain ⟨us,e,h1⟩:=h
   exact ⟨us,e,by rw [All2.map_left]; exact h1.mono fun _ _ _ hab=>SC.R_frz hz hab⟩
theorem b4.frz (hz:z.ok V) {a:Act} {t:Nat} {sv:SV} (h:b4 V a t sv):b4 V a t (sv.frz z):=by
 cases sv with
 | x s=>exact SX.R_frz hz h
 | tup l =>
   obtain ⟨us,e,h1⟩:=h
   exact ⟨us,e,by rw [All2.map_left]; exact h1.mono fun _ _ _ hab=>SX.R_frz hz hab⟩
 | grd s b v=>exact ⟨fun hb=>SX.R_frz hz (h.1 hb),h.2⟩
theorem Chunk.blk_frz {i:Nat} (c:Chunk):(c.frz z).blk V i=c.blk V i:=by cases c <;> rfl
theorem Chunk.holds_frz (hz:z.ok V) {w:World} {i:Nat} {c:Chunk} (h:c.holds V w i):(c.frz z).holds V w i:=by
 cases c with
 | dead=>trivial
 | own e t l=>exact h
 | cells cs e =>
   obtain ⟨us,h1,h2⟩:=h
   exact ⟨us,h1,by rw [All2.map_left]; exact h2.mono fun _ _ _ hab=>SC.R_frz hz hab⟩
end
def sa (z:Frz) (i:Nat) (st:ST):ST:={ st with fr:=st.fr.map (fun p=>(p.1,p.2.frz z)),ck:=(st.ck.set i .dead).map (Chunk.frz z) }
def oX:List RC→Option (List PD)
 | []=>some []
 | .pd p::r=>(oX r).map (p::·)
 | _::_=>none
def Ii:SC→Option (Nat×List PD)
 | .fn (.func f) [] b=>(oX b).map fun ps=>(f,ps)
 | _=>none
def mg:List SC→Option (List (Nat×List PD))
 | []=>some []
 | s::r=>match Ii s,mg r with
   | some q,some l=>some (q::l)
   | _,_=>none
theorem pq {V:Vn}:∀ {b:List RC} {ps:List PD},oX b=some ps→∀ {us:List Value},All2 (RC.R V) b us→All2 (PR V.H) ps us
 | [],ps,h,us,hu=>by simp [oX] at h; subst h; cases hu; exact .nil
 | .pd p::b,ps,h,us,hu=>by
   simp only [oX,al] at h
   obtain ⟨l,h1,rfl⟩:=h
   cases hu with | cons g1 g2=>exact .cons g1 (pq h1 g2)
 | .loc _ _::b,ps,h,us,hu=>by simp [oX] at h
theorem BH {V:Vn} {s:SC} {q:Nat×List PD} (h:Ii s=some q) {u:Value} (hu:s.R V u):∃ ub:List Value,u = .func (.func q.1) #[] ub.toArray∧All2 (PR V.H) q.2 ub:=by
 unfold Ii at h
 split at h
 · simp only [al] at h
   obtain ⟨ps,h1,rfl⟩:=h
   obtain ⟨ua,ub,e,k1,k2⟩:=hu
   cases k1
   exact ⟨ub,e,pq h1 k2⟩
 · simp at h
theorem kF {V:Vn}:∀ {cs:List SC} {l:List (Nat×List PD)},mg cs=some l→∀ {us:List Value},All2 (SC.R V) cs us →
 l.length=us.length∧∃ uss:Nat→List Value,∀ (i:Nat) (q:Nat×List PD),l[i]?=some q→us[i]?=some (.func (.func q.1) #[] (uss i).toArray)∧All2 (PR V.H) q.2 (uss i)
 | [],l,h,us,hu=>by simp [mg] at h; subst h; cases hu; exact ⟨rfl,fun _=>[],fun i q hq=>by simp at hq⟩
 | s :: cs,l,h,us,hu=>by
   simp only [mg] at h
   split at h
   · rename_i q0 l' h1 h2
     simp only [aa] at h; subst h
     cases hu with
     | cons g1 g2 =>
       obtain ⟨hl,uss,hus⟩:=kF h2 g2
       obtain ⟨ub,e,k2⟩:=BH h1 g1
       subst e
       refine ⟨by simp [hl],fun i=>match i with | 0=>ub | i+1=>uss i,fun i q hq=>?_⟩
       cases i with
       | zero=>simp at hq; subst hq; exact ⟨by simp,k2⟩
       | succ i=>exact hus i q (by simpa using hq)
   · simp at h
def Cy (tys:Tys) (st:ST) (i:Nat):Option Frz :=
 match st.ck[i]? with
 | some (.own _ t l)=>some (.own i t l)
 | some (.cells cs e)=>match AJ tys e with
   | some t=>match (gG cs).bind t.dec with
     | some x=>some (.row i (fun off=>.ref t x off))
     | none=>none
   | none=>(mg cs).map fun l=>.row i (fun off=>.fnAt l off)
 | _=>none
def oN (tys:Tys):ST→List SX→List Nat→Option (ST×List SX)
 | st,as,[]=>some (st,as)
 | st,as,i::r=>match Cy tys st i with
   | some z=>bif st.wf then oN tys (sa z i st) (as.map (SX.frz z)) r else none
   | none=>none
def r6 (tys:Tys) (st:ST) (l:List Nat):Option ST:=(oN tys st [] l).map (·.1)
def Jc (ck:List Chunk) (i:Nat):Bool:=match ck[i]? with | some (.own _ _ _)=>true | _=>false
def order (ck:List Chunk) (l:List Nat):List Nat:=let r:=cE ck l; r.filter (Jc ck)++r.filter (fun i=>!Jc ck i)
section
variable {Γ:Ctx} {st:ST} {V:Vn} {a:Act} {w:World} {tys:Tys} {P:Program}
theorem lK (r:Rel Γ st V a w) (hwf:st.wf=true) {z:Frz} {i:Nat} {H':Mem} (hle:HLe V.H H') (hw:WOk Γ (st.ck.set i .dead) ⟨H',V.σ,V.ov⟩ w) (hz:z.ok ⟨H',V.σ,V.ov⟩):Rel Γ (sa z i st) ⟨H',V.σ,V.ov⟩ a w:=by
 have hag:Agree st.ck.length V ⟨H',V.σ,V.ov⟩:=⟨hle,fun _ _=>⟨rfl,rfl⟩⟩
 simp only [ST.wf,af] at hwf
 have hget:∀ (j:Nat) c,((st.ck.set i .dead).map (Chunk.frz z))[j]?=some c→∃ c0,(st.ck.set i .dead)[j]?=some c0∧c=c0.frz z:=by
  intro j c hc
  rw [List.getElem?_map,al] at hc
  obtain ⟨c0,h1,rfl⟩:=hc
  exact ⟨c0,h1,rfl⟩
 refine { size:=r.size,defers:=r.defers,slots:=?_,wok:={ ext:=hw.ext,imm:=hw.imm,hle:=hw.hle,frz:=hw.frz,agr:=hw.agr,own:=?_,base:=?_,inj:=?_ },few:=⟨r.few.1,?_⟩ }
 · intro t sv hm
   obtain ⟨⟨t',sv'⟩,h5,h6⟩:=aT.1 hm
   simp only [ae] at h6
   obtain ⟨rfl,rfl⟩:=h6
   exact ((r.slots _ _ h5).agree hag (ak.1 hwf.1 _ h5)).frz hz
 · intro j c hc
   obtain ⟨c0,h1,rfl⟩:=hget j c hc
   exact Chunk.holds_frz hz (hw.own j c0 h1)
 · intro j c b hc hb
   obtain ⟨c0,h1,rfl⟩:=hget j c hc
   rw [Chunk.blk_frz] at hb
   exact hw.base j c0 b h1 hb
 · intro j k c d b hc hd hb1 hb2
   obtain ⟨c0,h1,rfl⟩:=hget j c hc
   obtain ⟨d0,h2,rfl⟩:=hget k d hd
   rw [Chunk.blk_frz] at hb1 hb2
   exact hw.inj j k c0 d0 b h1 h2 hb1 hb2
 · show st.m≤((st.ck.set i .dead).map (Chunk.frz z)).length
   rw [aN,bt]; exact r.few.2
theorem RC.R_keep {V':Vn} (h1:V'.σ=V.σ) (hle:HKe V.H V'.H) {s:RC} {u:Value} (h:s.R V u):s.R V' u:=by
 cases s with
 | pd p=>exact PR.keep hle h
 | loc i o=>show u=_; rw [h1]; exact h
theorem SC.R_keep {V':Vn} (h1:V'.σ=V.σ) (h2:V'.ov=V.ov) (hle:HKe V.H V'.H) {s:SC} {u:Value} (h:s.R V u):s.R V' u:=by
 cases s with
 | pd p=>exact PR.keep hle h
 | loc i o=>show u=_; rw [h1]; exact h
 | own i=>show u=_; rw [h2]; exact h
 | oat i j sz o=>show u=_; rw [h1]; exact h
 | fn f a b=>obtain ⟨ua,ub,e,g1,g2⟩:=h; exact ⟨ua,ub,e,g1.mono fun _ _ _ hab=>RC.R_keep h1 hle hab,g2.mono fun _ _ _ hab=>RC.R_keep h1 hle hab⟩
theorem SX.R_keep {V':Vn} (h1:V'.σ=V.σ) (h2:V'.ov=V.ov) (hle:HKe V.H V'.H) {s:SX} {u:Value} (h:s.R V u):s.R V' u:=by
 cases s with
 | c s=>exact SC.R_keep h1 h2 hle h
 | agg cs=>obtain ⟨us,e,g1⟩:=h; exact ⟨us,e,g1.mono fun _ _ _ hab=>SC.R_keep h1 h2 hle hab⟩
theorem RC.R_mono {V':Vn} (h1:V'.σ=V.σ) (hle:HLe V.H V'.H) {s:RC} {u:Value} (h:s.R V u):s.R V' u:=RC.R_keep h1 hle.ke h
theorem SC.R_mono {V':Vn} (h1:V'.σ=V.σ) (h2:V'.ov=V.ov) (hle:HLe V.H V'.H) {s:SC} {u:Value} (h:s.R V u):s.R V' u:=SC.R_keep h1 h2 hle.ke h
theorem SX.R_mono {V':Vn} (h1:V'.σ=V.σ) (h2:V'.ov=V.ov) (hle:HLe V.H V'.H) {s:SX} {u:Value} (h:s.R V u):s.R V' u:=SX.R_keep h1 h2 hle.ke h
theorem DY (r:Rel Γ st V a w) (hwf:st.wf=true) {i:Nat} {z:Frz} (h:Cy tys st i=some z):∃ V',V'.σ=V.σ∧V'.ov=V.ov∧HLe V.H V'.H∧z.ok V'∧Rel Γ (sa z i st) V' a w:=by
 unfold Cy at h
 split at h
 · rename_i e t l hc
   simp only [aa] at h
   subst h
   obtain ⟨H',h1,h2,h3⟩:=r.wok.freezeOwn hc
   exact ⟨⟨H',V.σ,V.ov⟩,rfl,rfl,h1,h3,lK r hwf h1 h2 h3⟩
 · rename_i cs e hc
   split at h
   · rename_i t ht
     split at h
     · rename_i x hx
       simp only [aP] at hx
       obtain ⟨ps,h1,h2⟩:=hx
       simp only [aa] at h
       subst h
       obtain ⟨us,g1,g2⟩:=r.wok.own i _ hc
       obtain ⟨k1,k2,k3⟩:=r.wok.freeze hc (g:=V.σ i) rfl g1
       have g3:=ETy.dec_PR h2 (iY h1 g2)
       have hok:(Frz.row i (fun off=>.ref t x off)).ok ⟨fun k=>if k=V.σ i then some (.cells us.toArray e (0,0)) else V.H k,V.σ,V.ov⟩:=fun off=>by
        have:=PR.ref (H:=fun k=>if k=V.σ i then some (.cells us.toArray e (0,0)) else V.H k) t x off (V.σ i) 0 us.toArray e (0,0) (by simp) (by rw [a8,← t.enc_length x,g3.length]; simp) (fun j p hp u hu=>by
         obtain ⟨u',g4,g5⟩:=g3.get hp
         rw [a8] at hu
         have:us[j]?=some u:=by simpa using hu
         rw [g4] at this
         simp only [aa] at this
         subst this
         exact g5.mono k1)
        rw [a8] at this
        exact this
       exact ⟨⟨fun k=>if k=V.σ i then some (.cells us.toArray e (0,0)) else V.H k,V.σ,V.ov⟩,rfl,rfl,k1,hok,lK r hwf k1 k3 hok⟩
     · simp at h
   · simp only [al] at h
     obtain ⟨l,hl,rfl⟩:=h
     obtain ⟨us,g1,g2⟩:=r.wok.own i _ hc
     obtain ⟨k1,k2,k3⟩:=r.wok.freeze hc (g:=V.σ i) rfl g1
     obtain ⟨_,uss,hus⟩:=kF hl g2
     have hok:(Frz.row i (fun off=>.fnAt l off)).ok ⟨fun k=>if k=V.σ i then some (.cells us.toArray e (0,0)) else V.H k,V.σ,V.ov⟩:=fun off =>
      PR.fnAt (H:=fun k=>if k=V.σ i then some (.cells us.toArray e (0,0)) else V.H k) l off (V.σ i) us.toArray e (0,0) uss (by simp) (fun i q hq=>⟨by simpa using (hus i q hq).1,(hus i q hq).2.length.symm⟩) (fun i q hq j p hp u hu=>by
       obtain ⟨u',g4,g5⟩:=(hus i q hq).2.get hp
       rw [hu] at g4
       simp only [aa] at g4
       subst g4
       exact g5.mono k1)
     exact ⟨⟨fun k=>if k=V.σ i then some (.cells us.toArray e (0,0)) else V.H k,V.σ,V.ov⟩,rfl,rfl,k1,hok,lK r hwf k1 k3 hok⟩
 · simp at h
theorem ng:∀ {l:List Nat} {st:ST} {as:List SX} {V:Vn} {st':ST} {as':List SX} {vs:List Value},Rel Γ st V a w→All2 (SX.R V) as vs→oN tys st as l=some (st',as') →
 ∃ V',V'.σ=V.σ∧V'.ov=V.ov∧HLe V.H V'.H∧All2 (SX.R V') as' vs∧Rel Γ st' V' a w
 | [],st,as,V,st',as',vs,r,hv,h=>by simp [oN] at h; obtain ⟨rfl,rfl⟩:=h; exact ⟨V,rfl,rfl,HLe.refl _,hv,r⟩
 | i :: l,st,as,V,st',as',vs,r,hv,h=>by
   simp only [oN] at h
   split at h
   · rename_i z hz
     cases hwf:st.wf
     · rw [hwf] at h; simp at h
     · rw [hwf] at h
       simp only [cond_true] at h
       obtain ⟨V1,e1,e2,e3,e4,r1⟩:=DY r hwf hz
       obtain ⟨V2,f1,f2,f3,f4,r2⟩:=ng r1 (by rw [All2.map_left]; exact hv.mono fun _ _ _ hab=>SX.R_frz e4 (SX.R_mono e1 e2 e3 hab)) h
       exact ⟨V2,f1.trans e1,f2.trans e2,e3.trans f3,f4,r2⟩
   · simp at h
end
theorem qb {Γ:Ctx} {st:ST} {V:Vn} {a:Act} {w:World} {tys:Tys} {l:List Nat} {st':ST} (r:Rel Γ st V a w) (h:r6 tys st l=some st'):∃ V',Rel Γ st' V' a w:=by
 simp only [r6,al] at h
 obtain ⟨⟨st1,as⟩,h1,rfl⟩:=h
 obtain ⟨V',_,_,_,_,r'⟩:=ng (vs:=[]) r .nil h1
 exact ⟨V',r'⟩
/-! ### calls -/
structure Cfg where
 tys:Tys
 tab:Tab
def RC.sx:RC→SX
 | .pd p=>.c (.pd p)
 | .loc i off=>.c (.loc i off)
def lX:List (Option SX)→Option (List SX)
 | []=>some []
 | some x::r=>(lX r).map (x::·)
 | none::_=>none
def Gn (P:Program) (tys:Tys) (t:TypeId):SX→SX
 | .c (.pd (.v (.slice none 0 0)))=>match P.underlying t with
   | some (.slice e)=>match AJ tys e with
     | some ty=>.c (.pd (.lst ty []))
     | none=>.c (.pd (.v (.slice none 0 0)))
   | _=>.c (.pd (.v (.slice none 0 0)))
 | x=>x
def qu (P:Program) (tys:Tys):List TypeId→List SX→List SX
 | t::ts,x::xs=>Gn P tys t x::qu P tys ts xs
 | _,xs=>xs
def HH (P:Program) (f:Nat):List TypeId:=match P.funcs[f]? with | some fn=>fn.params.toList | none=>[]
def callee (P:Program) (tys:Tys) (st:ST) (g:Option (Nat×Bool)):Op→Option (Nat×List SX)
 | .call { callee:=.value x,args:=args,argTypes:=_ }=>match bx st g x,lX (args.toList.map (bx st g)) with
   | some (.c (.fn (.func f) a b)),some vs=>some (f,a.map RC.sx++qu P tys (HH P f) vs++b.map RC.sx)
   | _,_=>none
 | _=>none
def rA:PD→Bool
 | .lst _ _=>false
 | .ref _ _ _=>false
 | .tbl _=>false
 | .buf _ _=>false
 | .fnAt _ _=>false
 | .fns _=>false
 | _=>true
def gJ:SC→Bool
 | .pd p=>rA p
 | _=>false
def Cm:SX→Bool
 | .c s=>gJ s
 | .agg cs=>cs.all gJ
def u9:SV→Bool
 | .x s=>Cm s
 | .tup l=>l.all Cm
 | .grd _ _ _=>false
def fN:SV→Bool
 | .grd _ _ _=>false
 | _=>true
def goA (P:Program) (tab:Tab) (st:ST) (f:Nat) (args:List SX):Option (Option Prop×SV×List Chunk) :=
 let m:=cE st.ck (args.flatMap SX.refs)
 match dD st.ck m with
 | some ck0=>bif eZ m&&within m (args.flatMap SX.refs)&&within m (ck0.flatMap Chunk.refs)&&fw P f&&st.wf then
    match pa tab f (args.map (SX.map fun i=>cD i m 0)) (ck0.map (Chunk.map fun i=>cD i m 0)) with
    | some (p,ret,ck2)=>bif Nat.ble m.length ck2.length&&fN ret then
       some (p,ret.map (back m st.ck.length),c8 st.ck m (ck2.map (Chunk.map (back m st.ck.length)))++(ck2.drop m.length).map (Chunk.map (back m st.ck.length)))
      else none
    | none=>none
   else none
 | none=>none
def goB (P:Program) (cfg:Cfg) (st:ST) (f:Nat) (args:List SX):Option (Option Prop×SV) :=
 match oN cfg.tys st args (order st.ck (args.flatMap SX.refs)) with
 | some (st',args')=>bif within [] (args'.flatMap SX.refs) then
    match goA P cfg.tab st' f args' with
    | some (p,ret,_)=>bif u9 ret then some (p,ret) else none
    | none=>none
   else none
 | none=>none
section
variable {Γ:Ctx} {st:ST} {V:Vn} {a:Act} {w:World} {P:Program} {cfg:Cfg}
theorem nU (r:Rel Γ st V a w) {g:Option (Nat×Bool)} (hg:eI a g):∀ (l:List Operand) (vs:List SX),lX (l.map (bx st g))=some vs→All2 (SX.R V) vs (l.map a.eval)
 | [],vs,h=>by simp [lX] at h; subst h; exact .nil
 | x :: l,vs,h=>by
   simp only [aw] at h
   cases hx:bx st g x with
   | none=>rw [hx] at h; simp [lX] at h
   | some sx =>
     rw [hx] at h
     simp only [lX,al] at h
     obtain ⟨l',h1,rfl⟩:=h
     exact .cons (aG r hg hx) (nU r hg l l' h1)
theorem xH {l:List RC} {us:List Value} (h:All2 (RC.R V) l us):All2 (SX.R V) (l.map RC.sx) us:=by
 rw [All2.map_left]
 exact h.mono fun s u _ hs=>by cases s <;> exact hs
theorem AZ {tys:Tys} {t:TypeId} {x:SX} {u:Value} (h:x.R V u):(Gn P tys t x).R V u:=by
 unfold Gn
 split
 · split
   · split
     · have h2:PR V.H (.v (.slice none 0 0)) u:=h
       cases h2
       exact PR.emp _ none 0 (fun _=>rfl)
     · exact h
   · exact h
 · exact h
theorem pC {tys:Tys}:∀ {ts:List TypeId} {xs:List SX} {us:List Value},All2 (SX.R V) xs us→All2 (SX.R V) (qu P tys ts xs) us
 | [],_,_,h=>by simpa [qu] using h
 | t::ts,[],_,h=>by simpa [qu] using h
 | t::ts,x::xs,_,h=>by
   cases h with | cons h1 h2=>exact .cons (AZ h1) (pC h2)
theorem vt {g:Nat} {args:Array Value} (h:fw P g=true):(callFunc g args).run P w = .ok (.enter g args) w:=by
 unfold fw at h
 split at h
 · rename_i fn hf
   simp only [af,aH] at h
   have hb:fn.body.isNone=false:=by cases hbb:fn.body <;> simp_all
   simp only [callFunc,Sem.run_bind,program,Sem.run,Result.andThen_ok,hf,h.1,eE,if_false,hb]
   rfl
 · simp at h
theorem fP (r:Rel Γ st V a w) {g:Option (Nat×Bool)} (hg:eI a g) {o:Oper} {f:Nat} {args:List SX} {tys:Tys} (h:callee P tys st g o.op=some (f,args)) (hf:fw P f=true) :
 ∃ vs,(execOp a.eval o).run P w = .ok (.enter f vs.toArray) w∧All2 (SX.R V) args vs:=by
 obtain ⟨dst,op,ty,pos,after,guard⟩:=o
 simp only at h
 unfold callee at h
 split at h
 · rename_i x args' ts
   split at h
   · rename_i f' fa fb vs hx hv
     simp only [aa,ae] at h
     obtain ⟨rfl,rfl⟩:=h
     obtain ⟨ua,ub,e,h1,h2⟩:=aG r hg hx
     have h3:=nU r hg _ _ hv
     refine ⟨ua++args'.toList.map a.eval++ub,?_,((xH h1).append (pC h3)).append (xH h2)⟩
     have hargs':args'.map a.eval=(args'.toList.map a.eval).toArray:=by
      apply cu.1
      rw [cv]
     simp only [execOp,resolve,hargs',e,Deferred.ofValue,Sem.run_bind,run_pure',Result.andThen_ok,invoke]
     have hall:ua.toArray++(args'.toList.map a.eval).toArray++ub.toArray=(ua++args'.toList.map a.eval++ub).toArray:=by
      apply cu.1; simp
     rw [hall]
     exact vt hf
   · simp at h
 · simp at h
theorem Ak {ρ:Nat→Nat} {V':Vn} {sv:SV} (h:∀ s,Turned ρ V V' s) {v:Value} (hr:sv.R V v):(sv.map ρ).R V' v:=by
 cases sv with
 | x s=>exact SX.R_map (h _) hr
 | tup l=>obtain ⟨us,e,h1⟩:=hr; exact ⟨us,e,jm (h _) h1⟩
 | grd s b v=>exact hr.elim
theorem lf (ht:TOk P cfg.tab Γ) (r:Rel Γ st V a w) {f:Nat} {args:List SX} {p:Option Prop} {ret:SV} {ck':List Chunk} (h:goA P cfg.tab st f args=some (p,ret,ck')) (hp:Holds p) {vs:List Value} (hv:All2 (SX.R V) args vs) :
 fw P f=true∧fN ret=true∧Calls P f vs.toArray w fun e w'=>∃ v V',e = .returned v∧ret.R V' v∧Agree st.ck.length V V'∧Fr (fun b=>∃ (i:Nat) (c:Chunk),st.ck[i]?=some c∧c.blk V i=some b) w w'∧(cE st.ck (args.flatMap SX.refs)=[]→Fr (fun _=>False) w w')∧WOk Γ ck' V' w':=by
 unfold goA at h
 simp only at h
 split at h
 · rename_i ck0 hpk
   generalize hm:cE st.ck (args.flatMap SX.refs)=m at *
   cases hb:(eZ m&&within m (args.flatMap SX.refs)&&within m (ck0.flatMap Chunk.refs)&&fw P f&&st.wf)
   · rw [hb] at h; simp at h
   · rw [hb] at h
     simp only [cond_true] at h
     simp only [af] at hb
     obtain ⟨⟨⟨⟨h1,h2⟩,h3⟩,h4⟩,hwf⟩:=hb
     split at h
     · rename_i p' ret' ck2 htab
       cases hl:(Nat.ble m.length ck2.length&&fN ret')
       · rw [hl] at h; simp at h
       · rw [hl] at h
         simp only [cond_true,aa,ae] at h
         obtain ⟨rfl,rfl,rfl⟩:=h
         simp only [af] at hl
         have hlen:=an hl.1
         refine ⟨h4,by cases ret' <;> first | rfl | (simp [fN] at hl),?_⟩
         have hs:=C7 ht.ok htab hp w (fJ m V) vs (r.wok.lend hpk h3 h1) (ht.tabs.mono r.wok.hle) (jm (fE h2) hv)
         refine hs.mono fun e w' hq=>?_
         obtain ⟨v,V2,rfl,hr,hw2⟩:=hq
         have hwf2:gI st.ck=true:=by simp only [ST.wf,af] at hwf; exact hwf.2
         obtain ⟨V3,g1,g2,g3⟩:=r.wok.back hwf2 (av r.few.1 r.few.2) hpk h3 h1 hw2 hlen
         have hpo:=kU (V:=V) (w:=w) r.wok.own hpk h3 h1
         refine ⟨v,V3,rfl,Ak g2 hr,g1,⟨hw2.ext.os,hw2.ext.tape,hw2.ext.output,hw2.ext.size,fun k hk hn=>hw2.ext.block k hk fun hMk=>?_⟩,fun hm0=>⟨hw2.ext.os,hw2.ext.tape,hw2.ext.output,hw2.ext.size,fun k hk _=>hw2.ext.block k hk fun hMk=>?_⟩,g3⟩
         · obtain ⟨j,c,hc,hb⟩:=hMk
           obtain ⟨_,i,c0,q1,q2,q3⟩:=hpo j c hc
           rw [q3] at hb
           exact hn ⟨i,c0,q2,hb⟩
         · obtain ⟨j,c,hc,hb⟩:=hMk
           obtain ⟨_,i,c0,q1,q2,q3⟩:=hpo j c hc
           rw [hm0] at q1; simp at q1
     · simp at h
 · simp at h
theorem Fo {H H':Mem} {p:PD} (h:rA p=true) {u:Value} (hr:PR H p u):PR H' p u:=by
 cases hr with
 | int k n=>exact .int k n
 | bool b=>exact .bool b
 | str s=>exact .str s
 | v=>exact .v _ (by assumption)
 | fl o x h2=>exact .fl o x h2
 | cx o x y h2=>exact .cx o x y h2
 | err t x=>exact .err t x
 | tbl _ _ _ _ _ _=>cases h
 | buf=>cases h
 | fnAt=>cases h
 | fns=>cases h
 | emp t ao cap _=>simp [rA] at h
 | lst t l b off cap cells e fr _ _ _ _ _=>simp [rA] at h
 | ref t x o b off cells e fr _ _ _=>simp [rA] at h
theorem tc {V':Vn} {s:SC} (h:gJ s=true) {u:Value} (hr:s.R V u):s.R V' u:=by
 cases s <;> first | (simp [gJ] at h; done) | exact Fo h hr
theorem ug {V':Vn} {s:SX} (h:Cm s=true) {u:Value} (hr:s.R V u):s.R V' u:=by
 cases s with
 | c s=>exact tc h hr
 | agg cs=>obtain ⟨us,e,h1⟩:=hr; exact ⟨us,e,h1.mono fun a b ha hab=>tc (ak.1 h a ha) hab⟩
theorem ti {V':Vn} {s:SV} (h:u9 s=true) {u:Value} (hr:s.R V u):s.R V' u:=by
 cases s with
 | x s=>exact ug h hr
 | tup l=>obtain ⟨us,e,h1⟩:=hr; exact ⟨us,e,h1.mono fun a b ha hab=>ug (ak.1 h a ha) hab⟩
 | grd _ _ _=>exact hr
theorem WOk.kept {ck:List Chunk} (r:WOk Γ ck V w) {w':World} (hf:Fr (fun _=>False) w w'):WOk Γ ck V w':=by
 have hold:∀ b,b<w.heap.size→w'.heap[b]?=w.heap[b]?:=fun b hb=>hf.block b hb (fun h=>h)
 refine { ext:=⟨hf.os.trans r.ext.os,hf.tape.trans r.ext.tape,hf.output.trans r.ext.output,av r.ext.size hf.size,fun k hk hn=>?_⟩,imm:=?_,hle:=r.hle,frz:=r.frz,agr:=r.agr,own:=?_,base:=r.base,inj:=r.inj }
 · rw [← r.ext.block k hk hn]; exact hold k (bN hk r.ext.size)
 · intro k o hk
   have:=r.imm k o hk
   rw [hold k (Array.getElem?_eq_some_iff.1 this).1]; exact this
 · intro i c hc
   exact Chunk.holds_kept (r.own i c hc) fun b hb=>hold b (Chunk.blk_lt (r.own i c hc) hb)
theorem ph (ck:List Chunk):cE ck []=[]:=by
 have h:∀ n,reach ck n []=[]:=by intro n; induction n with | zero=>rfl | succ n ih=>simp [reach,ih]
 simp [cE,h]
theorem lq (ht:TOk P cfg.tab Γ) (r:Rel Γ st V a w) {f:Nat} {args:List SX} {p:Option Prop} {ret:SV} (h:goB P cfg st f args=some (p,ret)) (hp:Holds p) {vs:List Value} (hv:All2 (SX.R V) args vs) :
 fw P f=true∧fN ret=true∧Calls P f vs.toArray w fun e w'=>∃ v,e = .returned v∧ret.R V v∧Fr (fun _=>False) w w'∧WOk Γ st.ck V w':=by
 unfold goB at h
 split at h
 · rename_i st' args' hfz
   cases hn:within [] (args'.flatMap SX.refs)
   · rw [hn] at h; simp at h
   · rw [hn] at h
     simp only [cond_true] at h
     have hnil:args'.flatMap SX.refs=[]:=by
      cases hl:args'.flatMap SX.refs with
      | nil=>rfl
      | cons x l=>rw [hl] at hn; simp [within] at hn
     split at h
     · rename_i p' ret' ck' hA
       cases hfl:u9 ret'
       · rw [hfl] at h; simp at h
       · rw [hfl] at h
         simp only [cond_true,aa,ae] at h
         obtain ⟨rfl,rfl⟩:=h
         obtain ⟨V',e1,e2,e3,hv',r'⟩:=ng r hv hfz
         obtain ⟨h1,h2,h3⟩:=lf ht r' hA hp hv'
         refine ⟨h1,h2,h3.mono fun e w' hq=>?_⟩
         obtain ⟨v,V2,rfl,hr,_,_,hfr,_⟩:=hq
         have hf:=hfr (by rw [hnil]; exact ph _)
         exact ⟨v,rfl,ti hfl hr,hf,r.wok.kept hf⟩
     · simp at h
 · simp at h
end
end Go.Ev
