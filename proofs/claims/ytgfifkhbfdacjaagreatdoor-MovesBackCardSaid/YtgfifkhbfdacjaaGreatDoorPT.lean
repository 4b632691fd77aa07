/- An executor for function bodies of the model over data, part PP: a statement whose order Go leaves open is sound. Conditions: each operation's own. An executor for function bodies of the model over data, part PT: a statement whose order Go leaves open, with operations that write the call's own blocks, and with such as are done only if another one says so: the symbolic run. Conditions: each operation's own. -/
import Derived.Test.YtgfifkhbfdacjaaGreatDoorPO
namespace Go.Ev
open Go.RowKit
section
variable {Γ:Ctx} {P:Program} {cfg:Cfg} {st base:ST} {V:Vn} {a:Act} {w:World} {ops:Array Oper} {fs:List FO}
theorem Bv {l:List Nat} (h:within [] l=true):l=[]:=by
 cases l with
 | nil=>rfl
 | cons x l=>simp [within] at h
theorem Dz (ht:TOk P cfg.tab Γ) (r:Rel Γ st V a w) (hwf:gI st.ck=true) {f:Nat} {args:List SX} {p:Option Prop} {ret:SV} (h:goF P cfg st f args=some (p,ret)) (hp:Holds p) {vs:List Value} (hv:All2 (SX.R V) args vs) :
 fw P f=true∧Calls P f vs.toArray w fun e w'=>∃ v,e = .returned v∧oZ Γ st.ck V (fun V2 v=>ret.R V2 v) v w':=by
 unfold goF at h
 cases hn:within [] (args.flatMap SX.refs)
 · rw [hn] at h
   simp only [cond_false] at h
   obtain ⟨h1,_,h3⟩:=lq ht r h hp hv
   exact ⟨h1,h3.mono fun e w' hq=>by obtain ⟨v,rfl,hr,_,hw⟩:=hq; exact ⟨v,rfl,V,Agree.refl _ _,hw,hr⟩⟩
 · rw [hn] at h
   simp only [cond_true] at h
   have hnil:=Bv hn
   split at h
   · rename_i p' ret' ck' hA
     obtain ⟨h1,h2,h3⟩:=lf (cfg:=cfg) ht r hA (by
      split at h
      · cases hb:within [] ret'.refs
        · rw [hb] at h; simp at h
        · rw [hb] at h; simp only [cond_true,aa,ae] at h; rw [h.1]; exact hp
      · rename_i t l _
        cases hb:within [] (ret'.frz (.own st.ck.length t l)).refs
        · rw [hb] at h; simp at h
        · rw [hb] at h; simp only [cond_true,aa,ae] at h; rw [h.1]; exact hp
      · simp at h) hv
     have hck':ck'=st.ck++ck'.drop st.ck.length:=by
      unfold goA at hA
      simp only [hnil,ph] at hA
      split at hA
      · rename_i ck0 hpk
        simp only [dD,aa] at hpk
        subst hpk
        cases hb:(eZ []&&within [] []&&within [] (([]:List Chunk).flatMap Chunk.refs)&&fw P f&&st.wf)
        · rw [hb] at hA; simp at hA
        · rw [hb] at hA
          simp only [cond_true] at hA
          split at hA
          · rename_i p1 r1 ck2 _
            cases hb2:(Nat.ble ([]:List Nat).length ck2.length&&fN r1)
            · rw [hb2] at hA; simp at hA
            · rw [hb2] at hA
              simp only [cond_true,aa,ae] at hA
              obtain ⟨_,_,rfl⟩:=hA
              have:c8 st.ck [] (ck2.map (Chunk.map (back [] st.ck.length)))=st.ck:=by cases ck2 <;> rfl
              rw [this]; simp
          · simp at hA
      · simp at hA
     refine ⟨h1,h3.mono fun e w' hq=>?_⟩
     obtain ⟨v,V2,rfl,hr,hag,_,_,hw⟩:=hq
     refine ⟨v,rfl,?_⟩
     split at h
     · rename_i hd
       cases hb:within [] ret'.refs
       · rw [hb] at h; simp at h
       · rw [hb] at h
         simp only [cond_true,aa,ae] at h
         obtain ⟨_,rfl⟩:=h
         rw [hd,aL] at hck'
         rw [hck'] at hw
         exact ⟨V2,hag,hw,hr⟩
     · rename_i e t l hd
       cases hb:within [] (ret'.frz (.own st.ck.length t l)).refs
       · rw [hb] at h; simp at h
       · rw [hb] at h
         simp only [cond_true,aa,ae] at h
         obtain ⟨_,rfl⟩:=h
         rw [hd] at hck'
         rw [hck'] at hw
         obtain ⟨H',m1,m2,m3⟩:=hw.freezeOwn (i:=st.ck.length) (e:=e) (t:=t) (l:=l) (by simp)
         have hset:(st.ck++[Chunk.own e t l]).set st.ck.length .dead=st.ck++[.dead]:=by simp
         rw [hset] at m2
         refine ⟨⟨H',V2.σ,V2.ov⟩,⟨hag.hle.trans m1,hag.same⟩,m2.chop,?_⟩
         have hr2:ret'.R ⟨H',V2.σ,V2.ov⟩ v:=by
          cases ret' with
          | x s=>exact SX.R_mono (V:=V2) (V':=⟨H',V2.σ,V2.ov⟩) rfl rfl m1 hr
          | tup l=>obtain ⟨us,e,g1⟩:=hr; exact ⟨us,e,g1.mono fun _ _ _ hab=>SX.R_mono (V:=V2) (V':=⟨H',V2.σ,V2.ov⟩) rfl rfl m1 hab⟩
          | grd _ _ _=>exact hr
         exact SV.R_frz (V:=⟨H',V2.σ,V2.ov⟩) (z:=.own st.ck.length t l) m3 hr2
     · simp at h
   · simp at h
theorem JR {tys:Tys} {op:Op} {k:Nat} {ck':List Chunk} (h:opM P tys st op=some (.c (.own k),ck')):∃ t len parts,op = .buildSlice t len parts:=by
 cases op <;> first | exact ⟨_,_,_,rfl⟩ | (simp [opM] at h; done) | skip
 all_goals
  exfalso
  simp only [opM,cond_eq_ite] at h
  (repeat' split at h) <;> simp at h
theorem yg {i:Nat} {o:Oper} {e:TypeId} {s:Src} (h:BB ops fs i o.op=some (e,s)) (hw:WOk Γ base.ck V w)
 (hanc:∀ j∈anc ops ops.size i,∀ d fo,bE ops j=some d→fs[j]?=some fo→fo.R V (a.tmps.getD d undef)):vI P o a w (oZ Γ base.ck V fun V2 v=>(⟨.x (.c (.pd (.lst s.t s.l))),some e⟩:FO).R V2 v):=by
 obtain ⟨od,oop,oty,opos,oaft,og⟩:=o
 simp only at h
 cases oop <;> first | (simp [BB] at h; done) | skip
 all_goals
  have htg:=m9 (V:=V) (a:=a) h hanc
  exact .inl ⟨_,w,rfl,V,Agree.refl _ _,hw,gO.lst htg,fun e' he=>by cases he; exact htg⟩
theorem xg {tys:Tys} {o:Oper} {fo:FO} (r:Rel Γ st V a w) (hwf:gI st.ck=true) (h:xm P tys st o.op=some fo):vI P o a w (oZ Γ st.ck V fun V2 v=>fo.R V2 v):=by
 unfold xm at h
 split at h
 · rename_i k ck' hm
   split at h
   · rename_i e t l hd
     cases hb:Nat.beq k st.ck.length
     · rw [hb] at h; simp at h
     · rw [hb] at h
       simp only [cond_true,aa] at h
       subst h
       obtain ⟨t',len,parts,hop⟩:=JR hm
       obtain ⟨od,oop,oty,opos,oaft,og⟩:=o
       simp only at hop hm
       subst hop
       obtain ⟨e2,ty2,l2,rs',_,hck2,hwf3,hrows,hrl,hmx,hrun⟩:=mq (w:=w) r hm
       subst hck2
       rw [List.drop_left] at hd
       simp only [dy,Chunk.own.injEq,and_true] at hd
       obtain ⟨rfl,rfl,hll⟩:=hd
       have hll:=eq_of_heq hll
       subst hll
       obtain ⟨V1,k1,k2,k3,k4,k5⟩:=r.wok.regrow hwf (av r.few.1 r.few.2) none (c:=.cells ((l2.flatMap ty2.enc).map .pd) e2) (v':=undef) (s':=w.heap.size) (row:=none) (by simp) (gi w (.cells rs'.toArray e2)) (fun V1 hag hH f1 f2=>by
        refine ⟨⟨rs',by rw [f1,heap_alloc_new],?_⟩,fun b hb=>.inr ?_⟩
        · rw [All2.map_left]; exact hrows.mono fun _ _ _ hab=>by show PR V1.H _ _; rw [hH]; exact hab
        · simp only [Chunk.blk,f1,aa] at hb; omega)
       simp only [ct] at k5
       have hnew:(w.alloc (.cells rs'.toArray e2)).heap[w.heap.size]?=some (.cells rs'.toArray e2 (0,0)):=heap_alloc_new w _
       obtain ⟨m1,m2,m3⟩:=k5.freeze (i:=st.ck.length) (g:=w.heap.size) (o:=.cells rs'.toArray e2 (0,0)) (c:=.cells ((l2.flatMap ty2.enc).map .pd) e2) (by simp) (by simp [Chunk.blk,k3]) hnew
       have hset:(st.ck++[Chunk.cells ((l2.flatMap ty2.enc).map .pd) e2]).set st.ck.length .dead=st.ck++[.dead]:=by simp
       rw [hset] at m3
       have htg:gO ⟨fun k=>if k=w.heap.size then some (.cells rs'.toArray e2 (0,0)) else V1.H k,V1.σ,V1.ov⟩ e2 ty2 l2 (.slice (some ⟨w.heap.size,0,none⟩) l2.length l2.length) :=
        ⟨w.heap.size,rs'.toArray,rfl,by simp,by simpa using hrl,hmx,by simpa using hrows.mono fun _ _ _ hab=>hab.mono (k1.hle.trans m1)⟩
       exact .inl ⟨_,_,bk hrun,⟨fun k=>if k=w.heap.size then some (.cells rs'.toArray e2 (0,0)) else V1.H k,V1.σ,V1.ov⟩,⟨k1.hle.trans m1,k1.same⟩,m3.chop,gO.lst htg,fun e' he=>by cases he; exact htg⟩
   · simp at h
 · simp at h
theorem Cj {i:Nat} {o:Oper} {p:Option Prop} {fo:FO} (rs:Rel Γ st V a w) (hwf:gI st.ck=true) (h:Hr P st ops fs i o.op=some (p,fo)) (hp:Holds p)
 (hanc:∀ j∈anc ops ops.size i,∀ d fo,bE ops j=some d→fs[j]?=some fo→fo.R V (a.tmps.getD d undef)):vI P o a w (oZ Γ st.ck V fun V2 v=>fo.R V2 v):=by
 obtain ⟨od,oop,oty,opos,oaft,og⟩:=o
 simp only at h
 unfold Hr at h
 split at h
 · rename_i args ts
   split at h
   · rename_i x y t t' hargs hts
     split at h
     · rename_i e0 so tx lx so2 ty' ly e htx hy hu
       split at h
       · rename_i inf hi
         split at h
         · rename_i z hz
           cases hb:(Nat.beq t t'&&Nat.beq e0 e&&Nat.beq tx.size inf.size&&Nat.beq z.cells.toList.length inf.size)
           · rw [hb] at h; simp at h
           · rw [hb] at h
             simp only [cond_true] at h
             split at h
             · rename_i het
               subst het
               simp only [aa,ae] at h
               obtain ⟨rfl,rfl⟩:=h
               simp only [af] at hb
               have q1:=aj hb.1.1.1
               have q2:=aj hb.1.1.2
               have q3:=aj hb.1.2
               have q4:=aj hb.2
               have ea:args=#[x,y]:=by cases args; simp_all
               have et:ts=#[t,t']:=by cases ts; simp_all
               subst ea; subst et; subst q1; subst q2
               simp only [aP] at hy
               obtain ⟨sy,hy1,hy2⟩:=hy
               obtain ⟨ao,c,us,e2,hn,hrows,hcells⟩:=mQ rs hy2 (aG rs (g:=none) trivial hy1)
               have htg:=m9 (V:=V) (a:=a) htx hanc
               simp only at htg e2 hn hrows
               obtain ⟨v',w',V',g1,g2,g3,g4⟩:=wM (ty:=oty) hu hi hz (by rw [← bw]; exact q4) q3 rs.wok hwf (av rs.few.1 rs.few.2) htg hn hrows hcells hp
               exact .inl ⟨v',w',iF rfl e2 g1,V',g2,g3,kT g4⟩
             · simp at h
         · simp at h
       · simp at h
     · simp at h
   · simp at h
 · simp at h
theorem wO (ht:TOk P cfg.tab Γ) {i:Nat} {o:Oper} {p:Option Prop} {fo:FO} (hwf:base.wf=true) (h:rv P cfg base ops fs i o=some (p,fo)) (hp:Holds p) (r:Rel Γ base V a w)
 (hanc:∀ j∈anc ops ops.size i,∀ d fo,bE ops j=some d→fs[j]?=some fo→fo.R V (a.tmps.getD d undef)):vI P o a w (oZ Γ base.ck V fun V2 v=>fo.R V2 v):=by
 have rs:Rel Γ (jf base ops fs (anc ops ops.size i)) V a w:=tR r fun j hj d fo hd hf=>(hanc j hj d fo hd hf).1
 have hwf2:gI base.ck=true:=by simp only [ST.wf,af] at hwf; exact hwf.2
 unfold rv at h
 split at h
 · rename_i e src hmv
   simp only [aa,ae] at h
   obtain ⟨rfl,rfl⟩:=h
   exact yg hmv r.wok hanc
 · split at h
   · rename_i p' sx hv
     simp only [aa,ae] at h
     obtain ⟨rfl,rfl⟩:=h
     obtain ⟨v,h1,h2⟩:=kh rs (g:=none) trivial hv hp
     exact .inl ⟨v,w,h1,V,Agree.refl _ _,r.wok,kT h2⟩
   · split at h
     · rename_i f args hc
       simp only [al,ae] at h
       obtain ⟨⟨p',ret⟩,hF,rfl,rfl⟩:=h
       have hok:fw P f=true:=by
        unfold goF at hF
        cases hn:within [] (args.flatMap SX.refs)
        · rw [hn] at hF; exact rp hF
        · rw [hn] at hF
          simp only [cond_true] at hF
          split at hF
          · rename_i hA; exact qI (cfg:=cfg) hA
          · simp at hF
       obtain ⟨vs,h1,h2⟩:=fP (P:=P) rs (g:=none) trivial hc hok
       obtain ⟨_,h3⟩:=Dz ht rs hwf2 hF hp h2
       refine .inr ⟨_,_,w,h1,h3.mono fun e w2 hq=>?_⟩
       obtain ⟨v,rfl,V2,g1,g2,g3⟩:=hq
       exact ⟨v,rfl,V2,g1,g2,kT g3⟩
     · split at h
       · rename_i l hl
         simp only [aa,ae] at h
         obtain ⟨rfl,rfl⟩:=h
         obtain ⟨v,h1,h2⟩:=nk (P:=P) rs hl
         exact .inl ⟨v,w,h1,V,Agree.refl _ _,r.wok,kT h2⟩
       split at h
       · rename_i sx hl
         simp only [aa,ae] at h
         obtain ⟨rfl,rfl⟩:=h
         obtain ⟨v,w',h1,h2,h3⟩:=nM (P:=P) rs hl
         exact .inl ⟨v,w',h1,V,Agree.refl _ _,r.wok.kept h3,kT h2⟩
       split at h
       · rename_i fo' hs
         simp only [aa,ae] at h
         obtain ⟨rfl,rfl⟩:=h
         exact xg (st:=jf base ops fs (anc ops ops.size i)) rs hwf2 hs
       · exact Cj (st:=jf base ops fs (anc ops ops.size i)) rs hwf2 h hp hanc
theorem lr {Ps:Program} {fr0:List (Nat×SV)}:∀ (l:List Oper) (fs0:List FO) {ps:List Prop} {fs:List FO},kA Ps cfg base ops fr0 l fs0=some (ps,fs)→(∀ q∈ps,q) →
 fs.length=fs0.length+l.length∧fs.take fs0.length=fs0∧∀ (j:Nat) o,l[j]?=some o→o.guard=none∧∃ p fo,rv Ps cfg { base with fr:=base.fr++AG ops fr0 (fs0.length+j) } ops (fs.take (fs0.length+j)) (fs0.length+j) o=some (p,fo)∧Holds p∧fs[fs0.length+j]?=some fo∧fo.sv.lt base.ck.length=true
 | [],fs0,ps,fs,h,_=>by
   simp only [kA,aa,ae] at h
   obtain ⟨rfl,rfl⟩:=h
   exact ⟨by simp,by simp,fun j o hj=>by simp at hj⟩
 | o :: l, fs0,ps,fs,h,hps=>by
   simp only [kA] at h
   cases hg:o.guard.isNone
   · rw [hg] at h; simp at h
   · rw [hg] at h
     simp only [cond_true] at h
     have hg':o.guard=none:=by simpa using hg
     split at h
     · rename_i p fo hop
       cases hb:(fo.sv.lt base.ck.length&&fN fo.sv)
       · rw [hb] at h; simp at h
       · rw [hb] at h
         simp only [cond_true] at h
         simp only [af] at hb
         split at h
         · rename_i ps' fs' hr
           simp only [aa,ae] at h
           obtain ⟨rfl,rfl⟩:=h
           have hq:Holds p:=by
            cases p with
            | none=>trivial
            | some q=>exact hps q ax
           have hps':∀ x∈ps',x:=by
            cases p with
            | none=>exact hps
            | some q=>exact fun x hx=>hps x (aI _ hx)
           obtain ⟨h1,h2,h3⟩:=lr l (fs0++[fo]) hr hps'
           simp only [ar,aF,bH] at h1 h2 h3
           have h4:fs'.take fs0.length=fs0:=by
            have:=congrArg (List.take fs0.length) h2
            rw [dn,cM (by omega)] at this
            simpa using this
           have h5:fs'[fs0.length]?=some fo:=by
            have:=congrArg (fun l=>l[fs0.length]?) h2
            simp only [List.getElem?_take] at this
            rw [if_pos (by omega)] at this
            simpa using this
           refine ⟨by simp only [aF]; omega,h4,fun j o' hj=>?_⟩
           cases j with
           | zero =>
             simp only [List.getElem?_cons_zero,aa] at hj
             subst hj
             exact ⟨hg',p,fo,by rw [cf,h4]; exact hop,hq,by rw [cf]; exact h5,hb.1⟩
           | succ j =>
             simp only [List.getElem?_cons_succ] at hj
             have:=h3 j o' hj
             rw [show fs0.length+(0+1)+j=fs0.length+(j+1) from by omega] at this
             exact this
         · simp at h
     · simp at h
theorem Eu (hok:gX ops=true):∀ (n i j:Nat),j∈anc ops n i→j<i
 | 0,i,j,h=>by simp [anc] at h
 | n + 1,i,j,h=>by
   unfold anc at h
   split at h
   · rename_i o ho
     obtain ⟨x,hx,hjx⟩:=aK.1 h
     have hxi:x<i:=by
      simp only [gX,af] at hok
      have h1:=ak.1 hok.2 (o,i) (by rw [List.mem_zipIdx_iff_getElem?]; simpa using ho)
      exact an (ak.1 h1 x hx)
     rcases aJ.1 hjx with rfl | hjx
     · exact hxi
     · have:=Eu hok n x j hjx; omega
   · cases h
theorem Cz {f:Go.Sy.Md} {R:Ending→World→Prop} (ht:TOk P cfg.tab Γ) (hm:P.follows .mixedOrders=true) (hok:(gX ops&&(dO ops).all (fun d=>Nat.blt d st.n)&&st.wf)=true)
 {ps:List Prop} (hrun:kA P cfg (bI ops st) ops st.fr ops.toList []=some (ps,fs)) (hps:∀ q∈ps,q) {id:Nat} {k:List Item} (r:Rel Γ st V a w)
 (hk:∀ V' a' w',Rel Γ (jf (bI ops st) ops fs (List.range ops.size)) V' a' w'→Go.Sy.Fin P f R k a' w'):Go.Sy.Fin P f R (.code (.region id ops true)::k) a w:=by
 simp only [af] at hok
 obtain ⟨⟨hfo,hds⟩,hwf⟩:=hok
 obtain ⟨hlen,_,hent⟩:=lr ops.toList [] hrun hps
 simp only [bH,a8,bw] at hlen hent
 refine Go.Sy.Fin.region_draw fun t=>?_
 simp only [Region.schedule,hm,b6,if_true]
 have rd:Rel Γ st V a w.drew:=⟨r.size,r.defers,r.slots,r.wok.kept ⟨rfl,rfl,rfl,aq _,fun _ _ _=>rfl⟩,r.few⟩
 let Φ:Nat→Vn→Value→Prop:=fun i V1 v=>match fs[i]? with | some fo=>fo.R V1 v | none=>False
 have hΦ:∀ {i:Nat} {fo:FO} {V1:Vn} {v:Value},fs[i]?=some fo→(Φ i V1 v↔fo.R V1 v):=by
  intro i fo V1 v h
  show (match fs[i]? with | some fo=>fo.R V1 v | none=>False)↔_
  rw [h]
 have hlt:∀ (i:Nat) fo,fs[i]?=some fo→fo.sv.lt st.ck.length=true:=by
  intro i fo hfo'
  have hi:i<ops.size:=by have:=(List.getElem?_eq_some_iff.1 hfo').1; omega
  obtain ⟨_,p,fo2,_,_,h3,h4⟩:=hent i ops[i] (by simp [hi])
  rw [hfo'] at h3
  simp only [aa] at h3
  subst h3; exact h4
 refine JL (V:=V) (st:=st) Φ ?_ hfo hds hwf ?_ ?_ ops.size t (Array.replicate ops.size false) V (Agree.refl _ _) (by simp) ?_ a w.drew (nN rd ops) (fun p hp _ _=>rd.slots p.1 p.2 hp) ?_ ?_
 · intro i V1 V2 v hag h
   cases hf:fs[i]? with
   | none=>have:(match fs[i]? with | some fo=>fo.R V1 v | none=>False):=h; rw [hf] at this; exact this.elim
   | some fo=>exact (hΦ hf).2 (FO.R_agree hag (hlt i fo hf) ((hΦ hf).1 h))
 · intro i o ho V1 hV1 a1 w1 r1 hold hanc
   obtain ⟨hg,p,fo,h1,h2,h3,h4⟩:=hent i o (by rw [Array.getElem?_toList]; exact ho)
   have hwt:Region.wanted o (yielded ops a1.tmps)=true:=fD hg
   refine ⟨fun _=>?_,fun hw=>by rw [hwt] at hw; cases hw⟩
   have e:(fun V2 v=>fo.R V2 v)=Φ i:=by
    funext V2 v
    exact propext (hΦ h3).symm
   have r2:Rel Γ { bI ops st with fr:=(bI ops st).fr++AG ops st.fr i } V1 a1 w1:=⟨r1.size,r1.defers,fun t' sv hm=>by
    rcases bJ.1 hm with hm | hm
    · exact r1.slots t' sv hm
    · obtain ⟨hm1,hm2⟩:=aA.1 hm
      simp only [af] at hm2
      refine hold (t',sv) hm1 hm2.1 fun j hjd=>?_
      have hjs:j<ops.size:=by
       unfold bE at hjd
       simp only [aP] at hjd
       obtain ⟨o',h5,_⟩:=hjd
       exact (Array.getElem?_eq_some_iff.1 h5).1
      have h6:=ak.1 hm2.2.2 j (bz.2 hjs)
      rw [hjd] at h6
      simp only [aM,aH] at h6
      rcases h6 with h6 | h6
      · exact absurd (eH t') (by rw [h6]; simp)
      · obtain ⟨x,hx,hxe⟩:=bn.1 h6
        rw [aj hxe]; exact hx,r1.wok,r1.few⟩
   have hwf3:({ bI ops st with fr:=(bI ops st).fr++AG ops st.fr i }:ST).wf=true:=by
    have h5:=lQ (ops:=ops) hwf
    simp only [ST.wf,af] at h5 hwf ⊢
    refine ⟨?_,h5.2⟩
    rw [bG,af]
    refine ⟨h5.1,ak.2 fun p hp=>?_⟩
    exact ak.1 hwf.1 p (aA.1 hp).1
   have:=wO (a:=a1) ht hwf3 h1 h2 r2 fun j hj d fo' hd hf=>by
    have hji:=Eu hfo _ _ _ hj
    rw [List.getElem?_take,if_pos hji] at hf
    exact (hΦ hf).1 (hanc j hj d hd)
   rw [← e]
   exact this
 · intro V1 hV1 a1 w1 r1 hall
   exact hk V1 a1 w1 (tR r1 fun j _ d fo hd hf=>((hΦ hf).1 (hall j d hd)).1)
 · unfold leftOf
   refine av (br _ _) (by simp)
 · intro i d hi
   simp [Array.getD_eq_getD_getElem?,Array.getElem?_replicate] at hi
   split at hi <;> simp at hi
 · intro i o hi
   simp [Array.getD_eq_getD_getElem?,Array.getElem?_replicate] at hi
   split at hi <;> simp at hi
end
end Go.Ev
namespace Go.Ev
open Go.RowKit
/-! ### numbers that a turning leaves alone -/
theorem fB {α:Type} {f:α→α} {l:List α} (h:∀ x∈l,f x=x):l.map f=l:=by
 induction l with
 | nil=>rfl
 | cons a l ih=>rw [aw,h a ax,ih fun x hx=>h x (aI _ hx)]
section
variable {ρ:Nat→Nat}
theorem RC.map_eq {s:RC} (h:∀ i∈s.refs,ρ i=i):s.map ρ=s:=by
 cases s with
 | pd p=>rfl
 | loc i o=>simp only [RC.map]; rw [h i (by simp [RC.refs])]
theorem SC.map_eq {s:SC} (h:∀ i∈s.refs,ρ i=i):s.map ρ=s:=by
 cases s with
 | pd p=>rfl
 | loc i o=>simp only [SC.map]; rw [h i (by simp [SC.refs])]
 | own i=>simp only [SC.map]; rw [h i (by simp [SC.refs])]
 | oat i j sz o=>simp only [SC.map]; rw [h i (by simp [SC.refs])]
 | fn f a b =>
   simp only [SC.map,SC.refs] at h ⊢
   rw [fB fun x hx=>RC.map_eq fun i hi=>h i (cP _ (aK.2 ⟨x,hx,hi⟩)),fB fun x hx=>RC.map_eq fun i hi=>h i (cJ _ (aK.2 ⟨x,hx,hi⟩))]
theorem SX.map_eq {s:SX} (h:∀ i∈s.refs,ρ i=i):s.map ρ=s:=by
 cases s with
 | c s=>simp only [SX.map]; rw [SC.map_eq h]
 | agg cs=>simp only [SX.map]; rw [fB fun x hx=>SC.map_eq fun i hi=>h i (aK.2 ⟨x,hx,hi⟩)]
theorem SV.map_eq {s:SV} (h:∀ i∈s.refs,ρ i=i):s.map ρ=s:=by
 cases s with
 | x s=>simp only [SV.map]; rw [SX.map_eq h]
 | tup l=>simp only [SV.map]; rw [fB fun x hx=>SX.map_eq fun i hi=>h i (aK.2 ⟨x,hx,hi⟩)]
 | grd s b v=>simp only [SV.map]; rw [SX.map_eq h]
theorem Chunk.map_eq {s:Chunk} (h:∀ i∈s.refs,ρ i=i):s.map ρ=s:=by
 cases s with
 | dead=>rfl
 | cells cs e=>simp only [Chunk.map]; rw [fB fun x hx=>SC.map_eq fun i hi=>h i (aK.2 ⟨x,hx,hi⟩)]
 | own e t l=>rfl
end
theorem SV.R_on {V V':Vn} {s:SV} (hle:HLe V.H V'.H) (h:∀ i∈s.refs,V'.σ i=V.σ i∧V'.ov i=V.ov i) {v:Value} (hr:s.R V v):s.R V' v:=by
 have ht:Turned (fun i=>i) V V' s.refs:=⟨hle,h⟩
 cases s with
 | x s=>have:=SX.R_map ht hr; rwa [SX.map_eq fun _ _=>rfl] at this
 | tup l =>
   obtain ⟨us,e,h1⟩:=hr
   have:=jm ht h1
   rw [fB fun x _=>SX.map_eq fun _ _=>rfl] at this
   exact ⟨us,e,this⟩
 | grd s b v=>exact hr
theorem b4.on {V V':Vn} {a:Act} {t:Nat} {sv:SV} (hle:HLe V.H V'.H) (h:∀ i∈sv.refs,V'.σ i=V.σ i∧V'.ov i=V.ov i) (hk:b4 V a t sv):b4 V' a t sv:=by
 have:=b4.map (ρ:=fun i=>i) (V':=V') ⟨hle,h⟩ hk
 rwa [SV.map_eq fun _ _=>rfl] at this
/-! ### ancestors -/
def w8 (x:Nat) (l:List Nat):List Nat:=bif l.any (Nat.beq x) then l else x::l
def vM (t:List (List Nat)) (o:Oper):List Nat:=(bW o).foldl (fun l j=>(j::t.getD j []).foldl (fun l x=>w8 x l) l) []
def cC:List Oper→List (List Nat)→List (List Nat)
 | [],t=>t
 | o::r,t=>cC r (t++[vM t o])
def c3 (A:List (List Nat)) (i:Nat):List Nat:=A.getD i []
def gL (ops:Array Oper):Bool:=gD (dO ops)&&(ops.toList.zipIdx.all fun p=>(bW p.1).all fun j=>Nat.blt j p.2)
/-! ### what the operations that are done have left of the chunks -/
abbrev Eff:=List (Nat×Nat×Chunk)
def dr (D:Nat→Bool):Eff→Nat→Option Chunk
 | [],_=>none
 | q::r,x=>bif Nat.beq q.2.1 x&&D q.1 then some q.2.2 else dr D r x
def fT (E:Eff) (D:Nat→Bool):List Chunk→Nat→List Chunk
 | [],_=>[]
 | c::r,x=>(dr D E x).getD c::fT E D r (x+1)
def df:List (Nat×Chunk)→Nat→Option Chunk
 | [],_=>none
 | p::r,x=>bif Nat.beq p.1 x then some p.2 else df r x
def vis (A:List (List Nat)) (i x:Nat) (T:List (Nat×Nat)):Bool :=
 T.all fun q=>!Nat.beq q.2 x||Nat.beq q.1 i||(c3 A i).any (Nat.beq q.1)||(c3 A q.1).any (Nat.beq i)
def viewAux (A:List (List Nat)) (T:List (Nat×Nat)) (E:Eff) (i:Nat):List Chunk→Nat→List Chunk
 | [],_=>[]
 | c::r,x=>(bif vis A i x T then (dr (fun k=>(c3 A i).any (Nat.beq k)) E x).getD c else .dead)::viewAux A T E i r (x+1)
/-! ### the run -/
structure FX where
 sv:SV
 on:Option (Nat×Nat×Bool×Prop)
def FX.R (V:Vn) (fo:FX) (v:Value):Prop:=match fo.on with
 | none=>fo.sv.R V v
 | some q=>(q.2.2.2→fo.sv.R V v)∧(¬q.2.2.2→v=undef)
def du (want b:Bool):Option (Nat×Nat×Bool×Prop)→Prop
 | none=>b=want
 | some q=>q.2.2.2∧b=want
def uG (cfg:Cfg):Bool:=cfg.tab.any fun e=>Nat.beq e.1 1000000007
def BZ (cfg:Cfg) (ops:Array Oper) (i:Nat):Option Bool:=bif cfg.tab.any (fun e=>Nat.beq e.1 1000000009) then ops.toList.findSome? (fun o=>match o.guard with
 | some (j,want)=>bif Nat.beq j i then some (bif cfg.tab.any (fun e=>Nat.beq e.1 (1000001000+i)) then !want else want) else none
 | none=>none) else none
def nK (ask:Option Bool) (p:Option Prop) (sv:SV):Option Prop×SV:=match ask with
 | none=>(p,sv)
 | some want=>match sv with
   | .x (.c (.pd (.bool b)))=>(some (match p with
     | none=>b=want
     | some q=>q∧b=want),.x (.c (.pd (.bool want))))
   | _=>(p,sv)
theorem yX {ask:Option Bool} {p:Option Prop} {sv:SV} (h:Holds (nK ask p sv).1):Holds p∧(nK ask p sv).2=sv:=by
 cases ask with
 | none=>exact ⟨h,rfl⟩
 | some want =>
   by_cases hb:∃ b,sv = .x (.c (.pd (.bool b)))
   · obtain ⟨b,rfl⟩:=hb
     cases p with
     | none =>
       have h':b=want:=h
       exact ⟨trivial,by rw [h']; rfl⟩
     | some q =>
       have h':q∧b=want:=h
       exact ⟨h'.1,by rw [h'.2]; rfl⟩
   · have e:nK (some want) p sv=(p,sv):=by
      unfold nK
      simp only
      split
      · exact absurd ⟨_,rfl⟩ hb
      · rfl
     rw [e] at h ⊢
     exact ⟨h,rfl⟩
def nv (lit:Bool) (ops:Array Oper) (fs:List FX) (An:List Nat) (o:Oper):Option (Option (Nat×Nat×Bool×Prop)) :=
 match o.guard with
 | none=>some none
 | some (j,want)=>bif An.any (Nat.beq j) then match fs[j]?,bE ops j with
    | some ⟨.x (.c (.pd (.bool b))),on⟩,some s=>bif lit then (match on with
      | none=>bif b==want then some none else some (some (j,s,want,du want b none))
      | some q=>some (some (j,s,want,du want b (some q)))) else some (some (j,s,want,du want b on))
    | _,_=>none
   else none
def jZ (ops:Array Oper) (fs:List FX) (all:List Nat):List Nat→List (Nat×SV)
 | []=>[]
 | j::r=>match fs[j]?,bE ops j with
   | some ⟨sv,none⟩,some d=>(d,sv)::jZ ops fs all r
   | some ⟨.x v,some (g,s,want,_)⟩,some d=>bif all.any (Nat.beq g) then (d,.grd s want v)::jZ ops fs all r else jZ ops fs all r
   | _,_=>jZ ops fs all r
def stX (base:ST) (ck:List Chunk) (ops:Array Oper) (fs:List FX) (l:List Nat):ST:={ base with fr:=jZ ops fs l l++base.fr,ck:=ck }
def Cd (P:Program) (cfg:Cfg) (s:ST) (g:Option (Nat×Bool)) (op:Op):Option (Option Prop×SV) :=
 match sK P s g op with
 | some (p,sx)=>some (p,.x sx)
 | none=>match g with
   | some _=>match callee P cfg.tys s g op with
     | some (f,args)=>goB P cfg s f args
     | none=>none
   | none=>match opT s op with
     | some l=>some (none,.tup l)
     | none=>match opC s op with
       | some sx=>some (none,.x sx)
       | none=>match callee P cfg.tys s none op with
         | some (f,args)=>bif within [] (args.flatMap SX.refs) then none else goB P cfg s f args
         | none=>none
def opN (P:Program) (st:ST):Op→Option SX
 | .buildSlice t len parts=>match P.underlying t with
   | some (.slice e)=>match eY P e,jP P e,iT st none parts.toList with
     | some n,some z,some ps=>match j9 (fun i=>some (i * n,n)) (xK z len) ps with
       | some cells=>match mg cells with
         | some l=>bif st.wf&&Nat.beq n 1&&Nat.ble (len * n) 16777216&&Nat.beq z.length n&&Nat.beq l.length len&&cells.all (SC.lt st.ck.length) then some (.c (.pd (.fns l))) else none
         | none=>none
       | none=>none
     | _,_,_=>none
   | _=>none
 | _=>none
def HZ (P:Program) (cfg:Cfg) (s:ST) (o:Oper):Option (Option Prop×SV×List Chunk) :=
 match opN P s o.op with
 | some sx=>some (none,.x sx,s.ck)
 | none=>match opM P cfg.tys s o.op with
 | some (sx,ck')=>some (none,.x sx,ck')
 | none=>match opS P s o.op,o.dst with
   | some (p,ck'),none=>some (p,.tup [],ck')
   | _,_=>match opX P s o.op with
     | some (p,sx,ck')=>some (p,.x sx,ck')
     | none=>match callee P cfg.tys s none o.op with
       | some (f,args)=>goA P cfg.tab s f args
       | none=>none
def IR (m:List Nat) (s:ST):Option ST:=match dD s.ck m with
 | some ck0=>bif eZ m&&within m (ck0.flatMap Chunk.refs) then
    some { n:=s.n,fr:=(s.fr.filter fun p=>within m p.2.refs).map (fun p=>(p.1,p.2.map fun i=>cD i m 0)),ck:=ck0.map (Chunk.map fun i=>cD i m 0),kn:=[],m:=m.length }
   else none
 | none=>none
def ren (a b:Nat) (x:Nat):Nat:=bif Nat.beq x a then b else x
def iJ:Nat→List Chunk→SV→Option SV
 | _,[],sv=>some sv
 | n,.own _ t l::r,sv=>iJ (n+1) r (sv.frz (.own n t l))
 | _,_::_,_=>none
def uW (q:Op→Nat→Bool) (ops:Array Oper):Nat→Nat→Bool
 | 0,_=>false
 | n+1,t=>ops.toList.any fun o=>q o.op t||match o.op with
   | .move (.tmp s) | .assign (.tmp s)=>Nat.beq s t&&(match o.dst with | some d=>uW q ops n d | none=>false)
   | .extract (.tmp s) _=>Nat.beq s t&&(match o.dst with | some d=>uW q ops n d | none=>false)
   | _=>false
def isT (t:Nat):Operand→Bool
 | .tmp s=>Nat.beq s t
 | _=>false
def MO:Op→Nat→Bool
 | .call { callee:=.builtin .append,args:=args,argTypes:=_ },t=>match args.toList with
   | x::_=>isT t x
   | []=>false
 | _,_=>false
def My:Op→Nat→Bool
 | .call { callee:=.value _,args:=args,argTypes:=_ },t=>args.toList.any (isT t)
 | _,_=>false
def Ls:Op→Bool
 | .call { callee:=.value _,args:=_,argTypes:=_ }=>true
 | _=>false
def Mz (ops:Array Oper) (o:Oper):Bool:=match o.dst with
 | some d=>uW MO ops 4 d||(!Ls o.op && !uW My ops 4 d)
 | none=>false
def IK:Chunk→Bool
 | .cells _ _=>true
 | _=>false
def marked:List Chunk→Option (List Chunk)
 | [.dead]=>some []
 | .own e t l::r=>(marked r).map (.own e t l::·)
 | _=>none
def pY (n x sz k y:Nat):Nat:=bif Nat.ble n y&&Nat.blt y (n+k) then x+(y - n) * sz else y
def k7 (x sz:Nat):Nat→List Chunk→List (Nat×Chunk)
 | _,[]=>[]
 | j,c::r=>(x+j * sz,c)::k7 x sz (j+1) r
def okR (b:Nat) (l:List Nat):Bool:=l.all fun y=>Nat.blt y b
def FV (n x sz:Nat) (m:List Nat) (keep:Bool) (ret:SV) (ck2:List Chunk):Option (SV×List (Nat×Chunk)) :=
 match ck2.drop m.length with
 | []=>some (ret.map (back m n),m.zip (ck2.map (Chunk.map (back m n))))
 | [c]=>bif keep||IK c then
    some ((ret.map (back m n)).map (ren n x),m.zip ((ck2.map (Chunk.map (back m n))).map (Chunk.map (ren n x)))++[(x,(c.map (back m n)).map (ren n x))])
   else match iJ n [c.map (back m n)] (ret.map (back m n)) with
    | some sv=>some (sv,m.zip (ck2.map (Chunk.map (back m n))))
    | none=>none
 | l => match marked l with
   | some L=>bif Nat.ble L.length 3&&okR (n+L.length) (ret.map (back m n)).refs&&okR (n+L.length) ((ck2.map (Chunk.map (back m n))).flatMap Chunk.refs) then
      some ((ret.map (back m n)).map (pY n x sz L.length),m.zip ((ck2.map (Chunk.map (back m n))).map (Chunk.map (pY n x sz L.length)))++k7 x sz 0 L)
     else none
   | none=>match iJ n (l.map (Chunk.map (back m n))) (ret.map (back m n)) with
     | some sv=>some (sv,m.zip (ck2.map (Chunk.map (back m n))))
     | none=>none
def ow (n0 sz y:Nat):Nat:=(y - n0) % sz
def I8 (P:Program) (cfg:Cfg) (ops:Array Oper) (A:List (List Nat)) (T:List (Nat×Nat)) (n0 i:Nat) (s:ST) (m:List Nat) (o:Oper):Option (Option Prop×SV×List (Nat×Chunk)) :=
 bif m.all (fun x=>vis A i x T && !(Nat.ble n0 x&&Nat.beq (ow n0 ops.size x) i)&&Nat.blt x s.ck.length) then
  match IR m s with
  | some s'=>match HZ P cfg s' o with
    | some (p,ret,ck2)=>bif Nat.ble m.length ck2.length&&fN ret then (FV s.ck.length (n0+i) ops.size m (Mz ops o) ret ck2).map fun r=>(p,r) else none
    | none=>none
  | none=>none
 else none
def Hp (fr0:List (Nat×SV)) (ops:Array Oper) (A:List (List Nat)) (i:Nat) (op:Op):Option SX:=match op with
 | .move (.tmp d)=>match fr0.find? (fun q=>Nat.beq q.1 d) with
   | some (_,.x v)=>bif (List.range ops.size).all (fun j=>match bE ops j with
     | some e=>bif Nat.beq e d then (c3 A j).any (Nat.beq i) else true
     | none=>true) then some v else none
   | _=>none
 | _=>none
theorem Fl {fr0:List (Nat×SV)} {ops:Array Oper} {A:List (List Nat)} {i:Nat} {op:Op} {v:SX} (h:Hp fr0 ops A i op=some v):∃ d,op = .move (.tmp d)∧(d,SV.x v)∈fr0∧∀ j,bE ops j=some d→i∈c3 A j:=by
 unfold Hp at h
 split at h
 · rename_i d
   split at h
   · rename_i d' v' hf
     cases hb:(List.range ops.size).all (fun j=>match bE ops j with
      | some e=>bif Nat.beq e d then (c3 A j).any (Nat.beq i) else true
      | none=>true)
     · rw [hb] at h; cases h
     · rw [hb] at h
       simp only [cond_true,aa] at h
       subst h
       have hm:=List.mem_of_find?_eq_some hf
       have hd:=List.find?_some hf
       have hd':d'=d:=aj hd
       subst hd'
       refine ⟨d',rfl,hm,fun j hj=>?_⟩
       have hjs:j<ops.size:=by
        unfold bE at hj
        simp only [aP] at hj
        obtain ⟨o,h1,_⟩:=hj
        exact (Array.getElem?_eq_some_iff.1 h1).1
       have:=ak.1 hb j (bz.2 hjs)
       rw [hj] at this
       simp only [eH,cond_true] at this
       exact gh this
   · cases h
 · cases h
def kD (P:Program) (cfg:Cfg) (base:ST) (ops:Array Oper) (A:List (List Nat)) (T:List (Nat×Nat)) (n0:Nat) (fr0:List (Nat×SV)) (fs:List FX) (E:Eff) (i:Nat) (o:Oper):Option (Option Prop×FX×List (Nat×Chunk)) :=
 match nv (uG cfg) ops fs (c3 A i) o with
 | some none=>match Cd P cfg (stX base (viewAux A T E i base.ck 0) ops fs (c3 A i)) none o.op with
   | some (p,sv)=>some ((nK (BZ cfg ops i) p sv).1,⟨(nK (BZ cfg ops i) p sv).2,none⟩,[])
   | none=>match Hp fr0 ops A i o.op with
   | some v=>some (none,⟨.x v,none⟩,[])
   | none=>match I8 P cfg ops A T n0 i (stX base (viewAux A T E i base.ck 0) ops fs (c3 A i)) (cE (viewAux A T E i base.ck 0) (wN (stX base (viewAux A T E i base.ck 0) ops fs (c3 A i)) o.op)) o with
     | some (p,sv,ef)=>some ((nK (BZ cfg ops i) p sv).1,⟨(nK (BZ cfg ops i) p sv).2,none⟩,ef)
     | none=>none
 | some (some g)=>match Cd P cfg (stX base (viewAux A T E i base.ck 0) ops fs (c3 A i)) (some (g.2.1,g.2.2.1)) o.op with
   | some (p,.x v)=>some (p.map (fun p=>g.2.2.2→p),⟨.x v,some g⟩,[])
   | _=>none
 | none=>none
def l4 (n0 sz:Nat) (A:List (List Nat)) (i:Nat) (l:List Nat):Bool:=l.all fun y=>Nat.blt y n0||(Nat.blt y (n0+sz * 3)&&(Nat.beq (ow n0 sz y) i||(c3 A i).any fun k=>Nat.beq (ow n0 sz y) k))
def sP (n0 sz:Nat) (A:List (List Nat)) (T:List (Nat×Nat)) (i:Nat) (fo:FX) (ef:List (Nat×Chunk)):Bool :=
 fN fo.sv&&l4 n0 sz A i fo.sv.refs&&ef.all fun p=>l4 n0 sz A i p.2.refs&&vis A i p.1 T&&l4 n0 sz A i [p.1]
def gv (P:Program) (cfg:Cfg) (base:ST) (ops:Array Oper) (A:List (List Nat)) (T:List (Nat×Nat)) (n0:Nat) (fr0:List (Nat×SV)):List Oper→List FX→Eff→Option (List Prop×List FX×Eff)
 | [],fs,E=>some ([],fs,E)
 | o :: r,fs,E=>match kD P cfg base ops A T n0 fr0 fs E fs.length o with
   | some (p,fo,ef)=>bif sP n0 ops.size A T fs.length fo ef then
      match gv P cfg base ops A T n0 fr0 r (fs++[fo]) (ef.map (fun q=>(fs.length,q.1,q.2))++E) with
      | some (ps,fs',E')=>some (match p with | some p=>p::ps | none=>ps,fs',E')
      | none=>none
     else none
   | none=>none
def Cv (E:Eff):List (Nat×Nat):=E.map fun q=>(q.1,q.2.1)
def inT (T:List (Nat×Nat)) (E:Eff):Bool:=E.all fun q=>T.any fun t=>Nat.beq t.1 q.1&&Nat.beq t.2 q.2.1
def vj (P:Program) (cfg:Cfg) (base:ST) (ops:Array Oper) (A:List (List Nat)) (n0:Nat) (fr0:List (Nat×SV)):Option (List Prop×List FX×Eff) :=
 match gv P cfg base ops A [] n0 fr0 ops.toList [] [] with
 | some (ps,fs,E)=>match E with
   | []=>some (ps,fs,[])
   | q::E=>match gv P cfg base ops A (Cv (q::E)) n0 fr0 ops.toList [] [] with
     | some (ps2,fs2,E2)=>bif inT (Cv (q::E)) E2 then some (ps2,fs2,E2) else none
     | none=>none
 | none=>none
def cT (ops:Array Oper) (st:ST):ST:={ bI ops st with ck:=st.ck++List.replicate (ops.size * 3) .dead }
def lW:Chunk→Bool
 | .dead=>true
 | _=>false
def nX (n0:Nat) (ck:List Chunk):List Chunk:=bif (ck.drop n0).all lW then ck.take n0 else ck
def MH (s:ST):ST:={ s with fr:=s.fr.filter fun p=>p.2.lt s.ck.length }
def Aj (ops:Array Oper) (st:ST) (fs:List FX) (E:Eff):ST :=
 MH (stX (cT ops st) (nX st.ck.length (fT E (fun _=>true) (cT ops st).ck 0)) ops fs (List.range ops.size))
end Go.Ev
