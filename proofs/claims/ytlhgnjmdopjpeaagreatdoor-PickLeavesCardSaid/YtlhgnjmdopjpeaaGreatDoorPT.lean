/- An executor for function bodies of the model over data, part PP: a statement whose order Go leaves open is sound. Conditions: each operation's own. An executor for function bodies of the model over data, part PT: a statement whose order Go leaves open, with operations that write the call's own blocks, and with such as are done only if another one says so: the symbolic run. Conditions: each operation's own. -/
import Derived.Test.YtlhgnjmdopjpeaaGreatDoorPO
namespace Go.Ev
open Go.RowKit
section
variable{Γ:Ctx}{P:Program}{cfg:Cfg}{st base:ST}{V:Vn}{a:Act}{w:World}{ops:Array Oper}{fs:List FO}
theorem GR{l:List Nat}(h:within [] l=true):l=[]:=by
 cases l with
 |nil=>rfl
 |cons x l=>simp[within]at h
theorem IU (ht:TOk P cfg.tab Γ) (r:Rel Γ st V a w) (hwf:iW st.ck=true) {f:Nat} {args:List SX} {p:Option Prop} {ret:SV} (h:goF P cfg st f args=some (p,ret)) (hp:Holds p) {vs:List Value} (hv:All2 (SX.R V) args vs) :
 gI P f=true∧Calls P f vs.toArray w fun e w'=>∃v,e = .returned v∧rD Γ st.ck V (fun V2 v=>ret.R V2 v) v w':=by
 unfold goF at h
 cases hn:within [] (args.flatMap SX.refs)
 · rw[hn]at h
   simp only[cond_false]at h
   obtain⟨h1,_,h3⟩:=nE ht r h hp hv
   exact⟨h1,h3.mono fun e w' hq=>by obtain⟨v,rfl,hr,_,hw⟩:=hq;exact⟨v,rfl,V,Agree.refl _ _,hw,hr⟩⟩
 · rw [hn] at h
   simp only[cond_true]at h
   have hnil:=GR hn
   split at h
   · rename_i p' ret' ck' hA
     obtain⟨h1,h2,h3⟩:=nD (cfg:=cfg) ht r hA (by
      split at h
      · cases hb:within [] ret'.refs
        ·rw[hb]at h;simp at h
        ·rw[hb]at h;simp only[cond_true,aa,ae]at h;rw[h.1];exact hp
      · rename_i t l _
        cases hb:within [] (ret'.frz (.own st.ck.length t l)).refs
        ·rw[hb]at h;simp at h
        ·rw[hb]at h;simp only[cond_true,aa,ae]at h;rw[h.1];exact hp
      ·simp at h) hv
     have hck':ck'=st.ck++ck'.drop st.ck.length:=by
      unfold goA at hA
      simp only[hnil,sP]at hA
      split at hA
      · rename_i ck0 hpk
        simp only[eQ,aa]at hpk
        subst hpk
        cases hb:(fX []&&within [] []&&within [] (([]:List Chunk).flatMap Chunk.refs)&&gI P f&&st.wf)
        ·rw[hb]at hA;simp at hA
        · rw [hb]at hA
          simp only[cond_true]at hA
          split at hA
          · rename_i p1 r1 ck2 _
            cases hb2:(Nat.ble ([]:List Nat).length ck2.length&&hZ r1)
            ·rw[hb2]at hA;simp at hA
            · rw[hb2]at hA
              simp only[cond_true,aa,ae]at hA
              obtain⟨_,_,rfl⟩:=hA
              have:dO st.ck [] (ck2.map (Chunk.map (back [] st.ck.length)))=st.ck:=by cases ck2 <;> rfl
              rw[this];simp
          ·simp at hA
      ·simp at hA
     refine⟨h1,h3.mono fun e w' hq=>?_⟩
     obtain⟨v,V2,rfl,hr,hag,_,_,hw⟩:=hq
     refine⟨v,rfl,?_⟩
     split at h
     · rename_i hd
       cases hb:within [] ret'.refs
       ·rw[hb]at h;simp at h
       · rw[hb]at h
         simp only[cond_true,aa,ae]at h
         obtain⟨_,rfl⟩:=h
         rw[hd,aO]at hck'
         rw[hck']at hw
         exact⟨V2,hag,hw,hr⟩
     · rename_i e t l hd
       cases hb:within [] (ret'.frz (.own st.ck.length t l)).refs
       ·rw[hb]at h;simp at h
       · rw[hb]at h
         simp only[cond_true,aa,ae]at h
         obtain⟨_,rfl⟩:=h
         rw[hd]at hck'
         rw[hck']at hw
         obtain⟨H',m1,m2,m3⟩:=hw.freezeOwn (i:=st.ck.length) (e:=e) (t:=t) (l:=l) (by simp)
         have hset:(st.ck++[Chunk.own e t l]).set st.ck.length .dead=st.ck++[.dead]:=by simp
         rw[hset]at m2
         refine⟨⟨H',V2.σ,V2.ov⟩,⟨hag.hle.trans m1,hag.same⟩,m2.chop,?_⟩
         have hr2:ret'.R ⟨H',V2.σ,V2.ov⟩ v:=by
          cases ret' with
          |x s=>exact SX.R_mono (V:=V2) (V':=⟨H',V2.σ,V2.ov⟩) rfl rfl m1 hr
          |tup l=>obtain⟨us,e,g1⟩:=hr;exact⟨us,e,g1.mono fun _ _ _ hab=>SX.R_mono (V:=V2) (V':=⟨H',V2.σ,V2.ov⟩) rfl rfl m1 hab⟩
          |grd _ _ _=>exact hr
         exact SV.R_frz (V:=⟨H',V2.σ,V2.ov⟩) (z:=.own st.ck.length t l) m3 hr2
     ·simp at h
   ·simp at h
theorem PM{tys:Tys}{op:Op}{k:Nat}{ck':List Chunk}(h:opM P tys st op=some (.c (.own k),ck')){e:TypeId}{t:ETy}{l:List t.den}(hd:ck'.drop st.ck.length=[.own e t l]):∃t len parts,op = .buildSlice t len parts:=by
 cases op <;> first |exact⟨_,_,_,rfl⟩ |(simp[opM]at h;done) |skip
 case makeMap t r =>
  cases r with
  |some _=>simp[opM]at h
  | none =>
    simp only[opM]at h
    split at h
    case h_2=>simp at h
    split at h
    case h_2=>simp at h
    cases hw:st.wf
    ·rw[hw]at h;simp at h
    · rw[hw]at h
      simp only[cond_true,aa,ae]at h
      obtain⟨_,rfl⟩:=h
      simp at hd
 all_goals
  exfalso
  simp only[opM,cond_eq_ite]at h
  (repeat' split at h) <;> simp at h
theorem CJ{i:Nat}{o:Oper}{e:TypeId}{s:Src}(h:FZ ops fs i o.op=some (e,s))(hw:WOk Γ base.ck V w)
 (hanc:∀j∈anc ops ops.size i,∀d fo,bL ops j=some d→fs[j]?=some fo→fo.R V (a.tmps.getD d undef)):Af P o a w (rD Γ base.ck V fun V2 v=>(⟨.x (.c (.pd (.lst s.t s.l))),some e⟩:FO).R V2 v):=by
 obtain⟨od,oop,oty,opos,oaft,og⟩:=o
 simp only at h
 cases oop <;> first |(simp[FZ]at h;done) |skip
 all_goals
  have htg:=pR (V:=V) (a:=a) h hanc
  exact .inl ⟨_,w,rfl,V,Agree.refl _ _,hw,jm.lst htg,fun e' he=>by cases he;exact htg⟩
theorem B6 {tys:Tys} {o:Oper} {fo:FO} (r:Rel Γ st V a w) (hwf:iW st.ck=true) (h:B5 P tys st o.op=some fo):Af P o a w (rD Γ st.ck V fun V2 v=>fo.R V2 v):=by
 unfold B5 at h
 split at h
 · rename_i k ck' hm
   split at h
   · rename_i e t l hd
     cases hb:Nat.beq k st.ck.length
     ·rw[hb]at h;simp at h
     · rw[hb]at h
       simp only[cond_true,aa]at h
       subst h
       obtain⟨t',len,parts,hop⟩:=PM hm hd
       obtain⟨od,oop,oty,opos,oaft,og⟩:=o
       simp only at hop hm
       subst hop
       obtain⟨e2,ty2,l2,rs',_,hck2,hwf3,hrows,hrl,hmx,hrun⟩:=oj (w:=w) r hm
       subst hck2
       rw[List.drop_left]at hd
       simp only[List.cons.injEq,Chunk.own.injEq,and_true]at hd
       obtain⟨rfl,rfl,hll⟩:=hd
       have hll:=eq_of_heq hll
       subst hll
       obtain⟨V1,k1,k2,k3,k4,k5⟩:=r.wok.regrow hwf (aC r.few.1 r.few.2) none (c:=.cells ((l2.flatMap ty2.enc).map .pd) e2) (v':=undef) (s':=w.heap.size) (row:=none) (by simp) (gk w (.cells rs'.toArray e2)) (fun V1 hag hH f1 f2=>by
        refine⟨⟨rs',by rw[f1,heap_alloc_new],?_⟩,fun b hb=>.inr ?_⟩
        ·rw[All2.map_left];exact hrows.mono fun _ _ _ hab=>by show PR V1.H _ _;rw[hH];exact hab
        ·simp only[Chunk.blk,f1,aa]at hb;omega)
       simp only[cK]at k5
       have hnew:(w.alloc (.cells rs'.toArray e2)).heap[w.heap.size]?=some (.cells rs'.toArray e2 (0,0)):=heap_alloc_new w _
       obtain⟨m1,m2,m3⟩:=k5.freeze (i:=st.ck.length) (g:=w.heap.size) (o:=.cells rs'.toArray e2 (0,0)) (c:=.cells ((l2.flatMap ty2.enc).map .pd) e2) (by simp) (by simp[Chunk.blk,k3]) hnew
       have hset:(st.ck++[Chunk.cells ((l2.flatMap ty2.enc).map .pd) e2]).set st.ck.length .dead=st.ck++[.dead]:=by simp
       rw[hset]at m3
       have htg:jm ⟨fun k=>if k=w.heap.size then some (.cells rs'.toArray e2 (0,0))else V1.H k,V1.σ,V1.ov⟩ e2 ty2 l2 (.slice (some ⟨w.heap.size,0,none⟩) l2.length l2.length) :=
        ⟨w.heap.size,rs'.toArray,rfl,by simp,by simpa using hrl,hmx,by simpa using hrows.mono fun _ _ _ hab=>hab.mono (k1.hle.trans m1)⟩
       exact .inl ⟨_,_,bg hrun,⟨fun k=>if k=w.heap.size then some (.cells rs'.toArray e2 (0,0))else V1.H k,V1.σ,V1.ov⟩,⟨k1.hle.trans m1,k1.same⟩,m3.chop,jm.lst htg,fun e' he=>by cases he;exact htg⟩
   ·simp at h
 ·simp at h
theorem Ea{i:Nat}{o:Oper}{p:Option Prop}{fo:FO}(rs:Rel Γ st V a w)(hwf:iW st.ck=true)(h:Kr P st ops fs i o.op=some (p,fo))(hp:Holds p)
 (hanc:∀j∈anc ops ops.size i,∀d fo,bL ops j=some d→fs[j]?=some fo→fo.R V (a.tmps.getD d undef)):Af P o a w (rD Γ st.ck V fun V2 v=>fo.R V2 v):=by
 obtain⟨od,oop,oty,opos,oaft,og⟩:=o
 simp only at h
 unfold Kr at h
 split at h
 · rename_i args ts
   split at h
   · rename_i x y t t' hargs hts
     split at h
     · rename_i e0 so tx lx so2 ty' ly e htx hy hu
       split at h
       · rename_i inf hi
         split at h
         · rename_i z hz
           cases hb:(Nat.beq t t'&&Nat.beq e0 e&&Nat.beq tx.size inf.size&&Nat.beq z.cells.toList.length inf.size)
           ·rw[hb]at h;simp at h
           · rw[hb]at h
             simp only[cond_true]at h
             split at h
             · rename_i het
               subst het
               simp only[aa,ae]at h
               obtain⟨rfl,rfl⟩:=h
               simp only[af]at hb
               have q1:=aj hb.1.1.1
               have q2:=aj hb.1.1.2
               have q3:=aj hb.1.2
               have q4:=aj hb.2
               have ea:args=#[x,y]:=by cases args;simp_all
               have et:ts=#[t,t']:=by cases ts;simp_all
               subst ea;subst et;subst q1;subst q2
               simp only[aR]at hy
               obtain⟨sy,hy1,hy2⟩:=hy
               obtain⟨ao,c,us,e2,hn,hrows,hcells⟩:=pH rs hy2 (aI rs (g:=none) trivial hy1)
               have htg:=pR (V:=V) (a:=a) htx hanc
               simp only at htg e2 hn hrows
               obtain⟨v',w',V',g1,g2,g3,g4⟩:=Am (ty:=oty) hu hi hz (by rw[←bD];exact q4) q3 rs.wok hwf (aC rs.few.1 rs.few.2) htg hn hrows hcells hp
               exact .inl ⟨v',w',kH rfl e2 g1,V',g2,g3,mN g4⟩
             ·simp at h
         ·simp at h
       ·simp at h
     ·simp at h
   ·simp at h
 ·simp at h
theorem Bt (ht:TOk P cfg.tab Γ) {i:Nat} {o:Oper} {p:Option Prop} {fo:FO} (hwf:base.wf=true) (h:uZ P cfg base ops fs i o=some (p,fo)) (hp:Holds p) (r:Rel Γ base V a w)
 (hanc:∀j∈anc ops ops.size i,∀d fo,bL ops j=some d→fs[j]?=some fo→fo.R V (a.tmps.getD d undef)):Af P o a w (rD Γ base.ck V fun V2 v=>fo.R V2 v):=by
 have rs:Rel Γ (kZ base ops fs (anc ops ops.size i)) V a w:=xM r fun j hj d fo hd hf=>(hanc j hj d fo hd hf).1
 have hwf2:iW base.ck=true:=by simp only[ST.wf,af]at hwf;exact hwf.2
 unfold uZ at h
 split at h
 · rename_i e src hmv
   simp only[aa,ae]at h
   obtain⟨rfl,rfl⟩:=h
   exact CJ hmv r.wok hanc
 · split at h
   · rename_i p' sx hv
     simp only[aa,ae]at h
     obtain⟨rfl,rfl⟩:=h
     obtain⟨v,h1,h2⟩:=mg rs (g:=none) trivial hv hp
     exact .inl ⟨v,w,h1,V,Agree.refl _ _,r.wok,mN h2⟩
   · split at h
     · rename_i f args hc
       simp only[ak,ae]at h
       obtain⟨⟨p',ret⟩,hF,rfl,rfl⟩:=h
       have hok:gI P f=true:=by
        unfold goF at hF
        cases hn:within [] (args.flatMap SX.refs)
        ·rw[hn]at hF;exact ve hF
        · rw[hn]at hF
          simp only[cond_true]at hF
          split at hF
          ·rename_i hA;exact vc (cfg:=cfg) hA
          ·simp at hF
       obtain⟨vs,h1,h2⟩:=gY (P:=P) rs (g:=none) trivial hc hok
       obtain⟨_,h3⟩:=IU ht rs hwf2 hF hp h2
       refine .inr ⟨_,_,w,h1,h3.mono fun e w2 hq=>?_⟩
       obtain⟨v,rfl,V2,g1,g2,g3⟩:=hq
       exact⟨v,rfl,V2,g1,g2,mN g3⟩
     · split at h
       · rename_i l hl
         simp only[aa,ae]at h
         obtain⟨rfl,rfl⟩:=h
         obtain⟨v,h1,h2⟩:=qV (P:=P) rs hl
         exact .inl ⟨v,w,h1,V,Agree.refl _ _,r.wok,mN h2⟩
       split at h
       · rename_i sx hl
         simp only[aa,ae]at h
         obtain⟨rfl,rfl⟩:=h
         obtain⟨v,w',h1,h2,h3⟩:=qU (P:=P) rs hl
         exact .inl ⟨v,w',h1,V,Agree.refl _ _,r.wok.kept h3,mN h2⟩
       split at h
       · rename_i fo' hs
         simp only[aa,ae]at h
         obtain⟨rfl,rfl⟩:=h
         exact B6 (st:=kZ base ops fs (anc ops ops.size i)) rs hwf2 hs
       ·exact Ea (st:=kZ base ops fs (anc ops ops.size i)) rs hwf2 h hp hanc
theorem nB{Ps:Program}{fr0:List (Nat×SV)}:∀(l:List Oper) (fs0:List FO) {ps:List Prop} {fs:List FO},mz Ps cfg base ops fr0 l fs0=some (ps,fs)→(∀q∈ps,q) →
 fs.length=fs0.length+l.length∧fs.take fs0.length=fs0∧∀(j:Nat) o,l[j]?=some o→o.guard=none∧∃p fo,uZ Ps cfg {base with fr:=base.fr++F7 ops fr0 (fs0.length+j)} ops (fs.take (fs0.length+j)) (fs0.length+j) o=some (p,fo)∧Holds p∧fs[fs0.length+j]?=some fo∧fo.sv.lt base.ck.length=true
 | [],fs0,ps,fs,h,_=>by
   simp only[mz,aa,ae]at h
   obtain⟨rfl,rfl⟩:=h
   exact⟨by simp,by simp,fun j o hj=>by simp at hj⟩
 | o :: l, fs0,ps,fs,h,hps=>by
   simp only[mz]at h
   cases hg:o.guard.isNone
   ·rw[hg]at h;simp at h
   · rw [hg] at h
     simp only[cond_true]at h
     have hg':o.guard=none:=by simpa using hg
     split at h
     · rename_i p fo hop
       cases hb:(fo.sv.lt base.ck.length&&hZ fo.sv)
       ·rw[hb]at h;simp at h
       · rw [hb]at h
         simp only[cond_true]at h
         simp only[af]at hb
         split at h
         · rename_i ps' fs' hr
           simp only[aa,ae]at h
           obtain⟨rfl,rfl⟩:=h
           have hq:Holds p:=by
            cases p with
            |none=>trivial
            |some q=>exact hps q aA
           have hps':∀x∈ps',x:=by
            cases p with
            |none=>exact hps
            |some q=>exact fun x hx=>hps x (aH _ hx)
           obtain⟨h1,h2,h3⟩:=nB l (fs0++[fo]) hr hps'
           simp only[au,av,bz]at h1 h2 h3
           have h4:fs'.take fs0.length=fs0:=by
            have:=congrArg (List.take fs0.length) h2
            rw[ei,cZ (by omega)]at this
            simpa using this
           have h5:fs'[fs0.length]?=some fo:=by
            have:=congrArg (fun l=>l[fs0.length]?) h2
            simp only[List.getElem?_take]at this
            rw[if_pos (by omega)]at this
            simpa using this
           refine⟨by simp only[av];omega,h4,fun j o' hj=>?_⟩
           cases j with
           | zero =>
             simp only[List.getElem?_cons_zero,aa]at hj
             subst hj
             exact⟨hg',p,fo,by rw[cn,h4];exact hop,hq,by rw[cn];exact h5,hb.1⟩
           | succ j =>
             simp only[List.getElem?_cons_succ]at hj
             have:=h3 j o' hj
             rw[show fs0.length+(0+1)+j=fs0.length+(j+1)from by omega]at this
             exact this
         ·simp at h
     ·simp at h
theorem GY(hok:jH ops=true):∀(n i j:Nat),j∈anc ops n i→j<i
 |0,i,j,h=>by simp[anc]at h
 | n + 1,i,j,h=>by
   unfold anc at h
   split at h
   · rename_i o ho
     obtain⟨x,hx,hjx⟩:=aU.1 h
     have hxi:x<i:=by
      simp only[jH,af]at hok
      have h1:=al.1 hok.2 (o,i) (by rw[List.mem_zipIdx_iff_getElem?];simpa using ho)
      exact ay (al.1 h1 x hx)
     rcases aJ.1 hjx with rfl |hjx
     ·exact hxi
     ·have:=GY hok n x j hjx;omega
   ·cases h
theorem FE {f:Go.Sy.Md} {R:Ending→World→Prop} (ht:TOk P cfg.tab Γ) (hm:P.follows .mixedOrders=true) (hok:(jH ops&&(eV ops).all (fun d=>Nat.blt d st.n)&&st.wf)=true)
 {ps:List Prop} (hrun:mz P cfg (bN ops st) ops st.fr ops.toList []=some (ps,fs)) (hps:∀q∈ps,q) {id:Nat} {k:List Item} (r:Rel Γ st V a w)
 (hk:∀V' a' w',Rel Γ (kZ (bN ops st) ops fs (List.range ops.size)) V' a' w'→Go.Sy.Fin P f R k a' w'):Go.Sy.Fin P f R (.code (.region id ops true)::k) a w:=by
 simp only[af]at hok
 obtain⟨⟨hfo,hds⟩,hwf⟩:=hok
 obtain⟨hlen,_,hent⟩:=nB ops.toList [] hrun hps
 simp only[bz,aY,bD]at hlen hent
 refine Go.Sy.Fin.region_draw fun t=>?_
 simp only[Region.schedule,hm,cv,if_true]
 have rd:Rel Γ st V a w.drew:=⟨r.size,r.defers,r.slots,r.wok.kept ⟨rfl,rfl,rfl,ar _,fun _ _ _=>rfl⟩,r.few⟩
 let Φ:Nat→Vn→Value→Prop:=fun i V1 v=>match fs[i]? with |some fo=>fo.R V1 v |none=>False
 have hΦ:∀{i:Nat} {fo:FO} {V1:Vn} {v:Value},fs[i]?=some fo→(Φ i V1 v↔fo.R V1 v):=by
  intro i fo V1 v h
  show(match fs[i]? with |some fo=>fo.R V1 v |none=>False)↔_
  rw[h]
 have hlt:∀(i:Nat) fo,fs[i]?=some fo→fo.sv.lt st.ck.length=true:=by
  intro i fo hfo'
  have hi:i<ops.size:=by have:=(List.getElem?_eq_some_iff.1 hfo').1;omega
  obtain⟨_,p,fo2,_,_,h3,h4⟩:=hent i ops[i] (by simp[hi])
  rw[hfo']at h3
  simp only[aa]at h3
  subst h3;exact h4
 refine Pe (V:=V) (st:=st) Φ ?_ hfo hds hwf ?_ ?_ ops.size t (Array.replicate ops.size false) V (Agree.refl _ _) (by simp) ?_ a w.drew (qy rd ops) (fun p hp _ _=>rd.slots p.1 p.2 hp) ?_ ?_
 · intro i V1 V2 v hag h
   cases hf:fs[i]? with
   |none=>have:(match fs[i]? with |some fo=>fo.R V1 v |none=>False):=h;rw[hf]at this;exact this.elim
   |some fo=>exact(hΦ hf).2 (FO.R_agree hag (hlt i fo hf) ((hΦ hf).1 h))
 · intro i o ho V1 hV1 a1 w1 r1 hold hanc
   obtain⟨hg,p,fo,h1,h2,h3,h4⟩:=hent i o (by rw[Array.getElem?_toList];exact ho)
   have hwt:Region.wanted o (yielded ops a1.tmps)=true:=iL hg
   refine⟨fun _=>?_,fun hw=>by rw[hwt]at hw;cases hw⟩
   have e:(fun V2 v=>fo.R V2 v)=Φ i:=by
    funext V2 v
    exact propext (hΦ h3).symm
   have r2:Rel Γ {bN ops st with fr:=(bN ops st).fr++F7 ops st.fr i} V1 a1 w1:=⟨r1.size,r1.defers,fun t' sv hm=>by
    rcases bG.1 hm with hm |hm
    ·exact r1.slots t' sv hm
    · obtain⟨hm1,hm2⟩:=az.1 hm
      simp only[af]at hm2
      refine hold (t',sv) hm1 hm2.1 fun j hjd=>?_
      have hjs:j<ops.size:=by
       unfold bL at hjd
       simp only[aR]at hjd
       obtain⟨o',h5,_⟩:=hjd
       exact(Array.getElem?_eq_some_iff.1 h5).1
      have h6:=al.1 hm2.2.2 j (bB.2 hjs)
      rw[hjd]at h6
      simp only[aM,aE]at h6
      rcases h6 with h6 |h6
      ·exact absurd (fJ t') (by rw[h6];simp)
      · obtain⟨x,hx,hxe⟩:=bp.1 h6
        rw[aj hxe];exact hx,r1.wok,r1.few⟩
   have hwf3:({bN ops st with fr:=(bN ops st).fr++F7 ops st.fr i}:ST).wf=true:=by
    have h5:=nS (ops:=ops) hwf
    simp only[ST.wf,af]at h5 hwf ⊢
    refine⟨?_,h5.2⟩
    rw[bE,af]
    refine⟨h5.1,al.2 fun p hp=>?_⟩
    exact al.1 hwf.1 p (az.1 hp).1
   have:=Bt (a:=a1) ht hwf3 h1 h2 r2 fun j hj d fo' hd hf=>by
    have hji:=GY hfo _ _ _ hj
    rw[List.getElem?_take,if_pos hji]at hf
    exact(hΦ hf).1 (hanc j hj d hd)
   rw[←e]
   exact this
 · intro V1 hV1 a1 w1 r1 hall
   exact hk V1 a1 w1 (xM r1 fun j _ d fo hd hf=>((hΦ hf).1 (hall j d hd)).1)
 · unfold leftOf
   refine aC (bb _ _) (by simp)
 · intro i d hi
   simp[Array.getD_eq_getD_getElem?,Array.getElem?_replicate]at hi
   split at hi <;> simp at hi
 · intro i o hi
   simp[Array.getD_eq_getD_getElem?,Array.getElem?_replicate]at hi
   split at hi <;> simp at hi
end
/-! ### numbers that a turning leaves alone -/
theorem gR{α:Type}{f:α→α}{l:List α}(h:∀x∈l,f x=x):l.map f=l:=by
 induction l with
 |nil=>rfl
 |cons a l ih=>rw[aq,h a aA,ih fun x hx=>h x (aH _ hx)]
section
variable{ρ:Nat→Nat}
theorem RC.map_eq{s:RC}(h:∀i∈s.refs,ρ i=i):s.map ρ=s:=by
 cases s with
 |pd p=>rfl
 |loc i o=>simp only[RC.map];rw[h i (by simp[RC.refs])]
theorem SC.map_eq{s:SC}(h:∀i∈s.refs,ρ i=i):s.map ρ=s:=by
 cases s with
 |pd p=>rfl
 |loc i o=>simp only[SC.map];rw[h i (by simp[SC.refs])]
 |own i=>simp only[SC.map];rw[h i (by simp[SC.refs])]
 |oat i j sz o=>simp only[SC.map];rw[h i (by simp[SC.refs])]
 | fn f a b =>
   simp only[SC.map,SC.refs]at h ⊢
   rw[gR fun x hx=>RC.map_eq fun i hi=>h i (du _ (aU.2 ⟨x,hx,hi⟩)),gR fun x hx=>RC.map_eq fun i hi=>h i (dm _ (aU.2 ⟨x,hx,hi⟩))]
theorem SX.map_eq{s:SX}(h:∀i∈s.refs,ρ i=i):s.map ρ=s:=by
 cases s with
 |c s=>simp only[SX.map];rw[SC.map_eq h]
 |agg cs=>simp only[SX.map];rw[gR fun x hx=>SC.map_eq fun i hi=>h i (aU.2 ⟨x,hx,hi⟩)]
theorem SV.map_eq{s:SV}(h:∀i∈s.refs,ρ i=i):s.map ρ=s:=by
 cases s with
 |x s=>simp only[SV.map];rw[SX.map_eq h]
 |tup l=>simp only[SV.map];rw[gR fun x hx=>SX.map_eq fun i hi=>h i (aU.2 ⟨x,hx,hi⟩)]
 |grd s b v=>simp only[SV.map];rw[SX.map_eq h]
theorem Chunk.map_eq{s:Chunk}(h:∀i∈s.refs,ρ i=i):s.map ρ=s:=by
 cases s with
 |dead=>rfl
 |cells cs e=>simp only[Chunk.map];rw[gR fun x hx=>SC.map_eq fun i hi=>h i (aU.2 ⟨x,hx,hi⟩)]
 |own e t l=>rfl
 | obj o =>
   cases o with
   |set=>rfl
   |it j d c=>simp only[Chunk.map,Ob.map];rw[h j (by simp[Chunk.refs,Ob.refs])]
end
theorem SV.R_on{V V':Vn}{s:SV}(hle:HLe V.H V'.H)(h:∀i∈s.refs,V'.σ i=V.σ i∧V'.ov i=V.ov i){v:Value}(hr:s.R V v):s.R V' v:=by
 have ht:Turned (fun i=>i) V V' s.refs:=⟨hle,h⟩
 cases s with
 |x s=>have:=SX.R_map ht hr;rwa[SX.map_eq fun _ _=>rfl]at this
 | tup l =>
   obtain⟨us,e,h1⟩:=hr
   have:=k0 ht h1
   rw[gR fun x _=>SX.map_eq fun _ _=>rfl]at this
   exact⟨us,e,this⟩
 |grd s b v=>exact hr
theorem cB.on{V V':Vn}{a:Act}{t:Nat}{sv:SV}(hle:HLe V.H V'.H)(h:∀i∈sv.refs,V'.σ i=V.σ i∧V'.ov i=V.ov i)(hk:cB V a t sv):cB V' a t sv:=by
 have:=cB.map (ρ:=fun i=>i) (V':=V') ⟨hle,h⟩ hk
 rwa[SV.map_eq fun _ _=>rfl]at this
/-! ### ancestors -/
def By(x:Nat)(l:List Nat):List Nat:=bif l.any (Nat.beq x)then l else x::l
def Ai(t:List (List Nat))(o:Oper):List Nat:=(cf o).foldl (fun l j=>(j::t.getD j []).foldl (fun l x=>By x l) l) []
def cW:List Oper→List (List Nat)→List (List Nat)
 |[],t=>t
 |o::r,t=>cW r (t++[Ai t o])
def dJ(A:List (List Nat))(i:Nat):List Nat:=A.getD i []
def js(ops:Array Oper):Bool:=iX (eV ops)&&(ops.toList.zipIdx.all fun p=>(cf p.1).all fun j=>Nat.blt j p.2)
/-! ### what the operations that are done have left of the chunks -/
abbrev Eff:=List (Nat×Nat×Chunk)
def eo(D:Nat→Bool):Eff→Nat→Option Chunk
 |[],_=>none
 |q::r,x=>bif Nat.beq q.2.1 x&&D q.1 then some q.2.2 else eo D r x
def iy(E:Eff)(D:Nat→Bool):List Chunk→Nat→List Chunk
 |[],_=>[]
 |c::r,x=>(eo D E x).getD c::iy E D r (x+1)
def dT:List (Nat×Chunk)→Nat→Option Chunk
 |[],_=>none
 |p::r,x=>bif Nat.beq p.1 x then some p.2 else dT r x
def vis(A:List (List Nat))(i x:Nat)(T:List (Nat×Nat)):Bool :=
 T.all fun q=>!Nat.beq q.2 x||Nat.beq q.1 i||(dJ A i).any (Nat.beq q.1)||(dJ A q.1).any (Nat.beq i)
def viewAux(A:List (List Nat))(T:List (Nat×Nat))(E:Eff)(i:Nat):List Chunk→Nat→List Chunk
 |[],_=>[]
 |c::r,x=>(bif vis A i x T then(eo (fun k=>(dJ A i).any (Nat.beq k)) E x).getD c else .dead)::viewAux A T E i r (x+1)
/-! ### the run -/
structure FX where
 sv:SV
 on:Option (Nat×Nat×Bool×Prop)
def FX.R(V:Vn)(fo:FX)(v:Value):Prop:=match fo.on with
 |none=>fo.sv.R V v
 |some q=>(q.2.2.2→fo.sv.R V v)∧(¬q.2.2.2→v=undef)
def gC(want b:Bool):Option (Nat×Nat×Bool×Prop)→Prop
 |none=>b=want
 |some q=>q.2.2.2∧b=want
def y8(cfg:Cfg):Bool:=cfg.tab.any fun e=>Nat.beq e.1 1000000007
def Eb(cfg:Cfg)(ops:Array Oper)(i:Nat):Option Bool:=bif cfg.tab.any (fun e=>Nat.beq e.1 1000000009)then ops.toList.findSome? (fun o=>match o.guard with
 |some (j,want)=>bif Nat.beq j i then some (bif cfg.tab.any (fun e=>Nat.beq e.1 (1000001000+i))then !want else want)else none
 |none=>none)else none
def pY(ask:Option Bool)(p:Option Prop)(sv:SV):Option Prop×SV:=match ask with
 |none=>(p,sv)
 | some want=>match sv with
   | .x (.c (.pd (.bool b)))=>(some (match p with
     |none=>b=want
     |some q=>q∧b=want),.x (.c (.pd (.bool want))))
   |_=>(p,sv)
theorem Dp{ask:Option Bool}{p:Option Prop}{sv:SV}(h:Holds (pY ask p sv).1):Holds p∧(pY ask p sv).2=sv:=by
 cases ask with
 |none=>exact⟨h,rfl⟩
 | some want =>
   by_cases hb:∃b,sv = .x (.c (.pd (.bool b)))
   · obtain⟨b,rfl⟩:=hb
     cases p with
     | none =>
       have h':b=want:=h
       exact⟨trivial,by rw[h'];rfl⟩
     | some q =>
       have h':q∧b=want:=h
       exact⟨h'.1,by rw[h'.2];rfl⟩
   · have e:pY (some want) p sv=(p,sv):=by
      unfold pY
      simp only
      split
      ·exact absurd ⟨_,rfl⟩ hb
      ·rfl
     rw[e]at h ⊢
     exact⟨h,rfl⟩
def qD (lit:Bool) (ops:Array Oper) (fs:List FX) (An:List Nat) (o:Oper):Option (Option (Nat×Nat×Bool×Prop)) :=
 match o.guard with
 |none=>some none
 | some (j,want)=>bif An.any (Nat.beq j)then match fs[j]?,bL ops j with
    | some ⟨.x (.c (.pd (.bool b))),on⟩,some s=>bif lit then(match on with
      |none=>bif b==want then some none else some (some (j,s,want,gC want b none))
      |some q=>some (some (j,s,want,gC want b (some q))))else some (some (j,s,want,gC want b on))
    |_,_=>none
   else none
def lT(ops:Array Oper)(fs:List FX)(all:List Nat):List Nat→List (Nat×SV)
 |[]=>[]
 | j::r=>match fs[j]?,bL ops j with
   |some ⟨sv,none⟩,some d=>(d,sv)::lT ops fs all r
   |some ⟨.x v,some (g,s,want,_)⟩,some d=>bif all.any (Nat.beq g)then(d,.grd s want v)::lT ops fs all r else lT ops fs all r
   |_,_=>lT ops fs all r
def stX(base:ST)(ck:List Chunk)(ops:Array Oper)(fs:List FX)(l:List Nat):ST:={base with fr:=lT ops fs l l++base.fr,ck:=ck}
def Gi (P:Program) (cfg:Cfg) (s:ST) (g:Option (Nat×Bool)) (op:Op):Option (Option Prop×SV) :=
 match wt P s g op with
 |some (p,sx)=>some (p,.x sx)
 | none=>match g with
   | some _=>match callee P cfg.tys s g op with
     |some (f,args)=>goB P cfg s f args
     |none=>none
   | none=>match opT s op with
     |some l=>some (none,.tup l)
     | none=>match opC s op with
       |some sx=>some (none,.x sx)
       | none=>match callee P cfg.tys s none op with
         |some (f,args)=>bif within [] (args.flatMap SX.refs)then none else goB P cfg s f args
         |none=>none
def opN (P:Program) (st:ST):Op→Option SX
 | .buildSlice t len parts=>match P.underlying t with
   | some (.slice e)=>match gu P e,lX P e,kB st none parts.toList with
     | some n,some z,some ps=>match mc (fun i=>some (i * n,n)) (BS z len) ps with
       | some cells=>match oJ cells with
         |some l=>bif st.wf&&Nat.beq n 1&&Nat.ble (len * n) 16777216&&Nat.beq z.length n&&Nat.beq l.length len&&cells.all (SC.lt st.ck.length)then some (.c (.pd (.fns l)))else none
         |none=>none
       |none=>none
     |_,_,_=>none
   |_=>none
 |_=>none
def NC(P:Program)(cfg:Cfg)(s:ST)(o:Oper):Option (Option Prop×SV×List Chunk) :=
 match opN P s o.op with
 |some sx=>some (none,.x sx,s.ck)
 |none=>match opM P cfg.tys s o.op with
 |some (sx,ck')=>some (none,.x sx,ck')
 | none=>match opS P s o.op,o.dst with
   |some (p,ck'),none=>some (p,.tup [],ck')
   | _,_=>match opX P s o.op with
     |some (p,sx,ck')=>some (p,.x sx,ck')
     | none=>match callee P cfg.tys s none o.op with
       |some (f,args)=>goA P cfg.tab s f args
       |none=>none
def N7 (m:List Nat) (s:ST):Option ST:=match eQ s.ck m with
 | some ck0=>bif fX m&&within m (ck0.flatMap Chunk.refs)then
    some {n:=s.n,fr:=(s.fr.filter fun p=>within m p.2.refs).map (fun p=>(p.1,p.2.map fun i=>c6 i m 0)),ck:=ck0.map (Chunk.map fun i=>c6 i m 0),kn:=[],m:=m.length}
   else none
 |none=>none
def ren(a b:Nat)(x:Nat):Nat:=bif Nat.beq x a then b else x
def jI:Nat→List Chunk→SV→Option SV
 |_,[],sv=>some sv
 |n,.own _ t l::r,sv=>jI (n+1) r (sv.frz (.own n t l))
 |_,_::_,_=>none
def yX(q:Op→Nat→Bool)(ops:Array Oper):Nat→Nat→Bool
 |0,_=>false
 | n+1,t=>ops.toList.any fun o=>q o.op t||match o.op with
   |.move (.tmp s) |.assign (.tmp s)=>Nat.beq s t&&(match o.dst with |some d=>yX q ops n d |none=>false)
   |.extract (.tmp s) _=>Nat.beq s t&&(match o.dst with |some d=>yX q ops n d |none=>false)
   |_=>false
def isT(t:Nat):Operand→Bool
 |.tmp s=>Nat.beq s t
 |_=>false
def Sf:Op→Nat→Bool
 | .call {callee:=.builtin .append,args:=args,argTypes:=_},t=>match args.toList with
   |x::_=>isT t x
   |[]=>false
 |_,_=>false
def RY:Op→Nat→Bool
 |.call {callee:=.value _,args:=args,argTypes:=_},t=>args.toList.any (isT t)
 |_,_=>false
def Rq:Op→Bool
 |.call {callee:=.value _,args:=_,argTypes:=_}=>true
 |_=>false
def RS(ops:Array Oper)(o:Oper):Bool:=match o.dst with
 |some d=>yX Sf ops 4 d||(!Rq o.op && !yX RY ops 4 d)
 |none=>false
def N3:Chunk→Bool
 |.obj _=>true
 |.cells _ _=>true
 |_=>false
def marked:List Chunk→Option (List Chunk)
 |[.dead]=>some []
 |.own e t l::r=>(marked r).map (.own e t l::·)
 |_=>none
def tC(n x sz k y:Nat):Nat:=bif Nat.ble n y&&Nat.blt y (n+k)then x+(y - n) * sz else y
def nI(x sz:Nat):Nat→List Chunk→List (Nat×Chunk)
 |_,[]=>[]
 |j,c::r=>(x+j * sz,c)::nI x sz (j+1) r
def okR(b:Nat)(l:List Nat):Bool:=l.all fun y=>Nat.blt y b
def Mq (n x sz:Nat) (m:List Nat) (keep:Bool) (ret:SV) (ck2:List Chunk):Option (SV×List (Nat×Chunk)) :=
 match ck2.drop m.length with
 |[]=>some (ret.map (back m n),m.zip (ck2.map (Chunk.map (back m n))))
 | [c]=>bif keep||N3 c then
    some ((ret.map (back m n)).map (ren n x),m.zip ((ck2.map (Chunk.map (back m n))).map (Chunk.map (ren n x)))++[(x,(c.map (back m n)).map (ren n x))])
   else match jI n [c.map (back m n)] (ret.map (back m n))with
    |some sv=>some (sv,m.zip (ck2.map (Chunk.map (back m n))))
    |none=>none
 | l => match marked l with
   | some L=>bif Nat.ble L.length 3&&okR (n+L.length) (ret.map (back m n)).refs&&okR (n+L.length) ((ck2.map (Chunk.map (back m n))).flatMap Chunk.refs)then
      some ((ret.map (back m n)).map (tC n x sz L.length),m.zip ((ck2.map (Chunk.map (back m n))).map (Chunk.map (tC n x sz L.length)))++nI x sz 0 L)
     else none
   | none=>match jI n (l.map (Chunk.map (back m n))) (ret.map (back m n))with
     |some sv=>some (sv,m.zip (ck2.map (Chunk.map (back m n))))
     |none=>none
def ow(n0 sz y:Nat):Nat:=(y - n0) % sz
def N1 (P:Program) (cfg:Cfg) (ops:Array Oper) (A:List (List Nat)) (T:List (Nat×Nat)) (n0 i:Nat) (s:ST) (m:List Nat) (o:Oper):Option (Option Prop×SV×List (Nat×Chunk)) :=
 bif m.all (fun x=>vis A i x T && !(Nat.ble n0 x&&Nat.beq (ow n0 ops.size x) i)&&Nat.blt x s.ck.length)then
  match N7 m s with
  | some s'=>match NC P cfg s' o with
    |some (p,ret,ck2)=>bif Nat.ble m.length ck2.length&&hZ ret then(Mq s.ck.length (n0+i) ops.size m (RS ops o) ret ck2).map fun r=>(p,r)else none
    |none=>none
  |none=>none
 else none
def Mg(fr0:List (Nat×SV))(ops:Array Oper)(A:List (List Nat))(i:Nat)(op:Op):Option SX:=match op with
 | .move (.tmp d)=>match fr0.find? (fun q=>Nat.beq q.1 d)with
   | some (_,.x v)=>bif (List.range ops.size).all (fun j=>match bL ops j with
     |some e=>bif Nat.beq e d then(dJ A j).any (Nat.beq i)else true
     |none=>true)then some v else none
   |_=>none
 |_=>none
theorem Ji {fr0:List (Nat×SV)} {ops:Array Oper} {A:List (List Nat)} {i:Nat} {op:Op} {v:SX} (h:Mg fr0 ops A i op=some v):∃d,op = .move (.tmp d)∧(d,SV.x v)∈fr0∧∀j,bL ops j=some d→i∈dJ A j:=by
 unfold Mg at h
 split at h
 · rename_i d
   split at h
   · rename_i d' v' hf
     cases hb:(List.range ops.size).all (fun j=>match bL ops j with
      |some e=>bif Nat.beq e d then(dJ A j).any (Nat.beq i)else true
      |none=>true)
     ·rw[hb]at h;cases h
     · rw[hb]at h
       simp only[cond_true,aa]at h
       subst h
       have hm:=List.mem_of_find?_eq_some hf
       have hd:=List.find?_some hf
       have hd':d'=d:=aj hd
       subst hd'
       refine⟨d',rfl,hm,fun j hj=>?_⟩
       have hjs:j<ops.size:=by
        unfold bL at hj
        simp only[aR]at hj
        obtain⟨o,h1,_⟩:=hj
        exact(Array.getElem?_eq_some_iff.1 h1).1
       have:=al.1 hb j (bB.2 hjs)
       rw[hj]at this
       simp only[fJ,cond_true]at this
       exact iK this
   ·cases h
 ·cases h
def my(P:Program)(cfg:Cfg)(base:ST)(ops:Array Oper)(A:List (List Nat))(T:List (Nat×Nat))(n0:Nat)(fr0:List (Nat×SV))(fs:List FX)(E:Eff)(i:Nat)(o:Oper):Option (Option Prop×FX×List (Nat×Chunk)) :=
 match qD (y8 cfg) ops fs (dJ A i) o with
 | some none=>match Gi P cfg (stX base (viewAux A T E i base.ck 0) ops fs (dJ A i)) none o.op with
   |some (p,sv)=>some ((pY (Eb cfg ops i) p sv).1,⟨(pY (Eb cfg ops i) p sv).2,none⟩,[])
   |none=>match Mg fr0 ops A i o.op with
   |some v=>some (none,⟨.x v,none⟩,[])
   | none=>match N1 P cfg ops A T n0 i (stX base (viewAux A T E i base.ck 0) ops fs (dJ A i)) (c8 (viewAux A T E i base.ck 0) (BH (stX base (viewAux A T E i base.ck 0) ops fs (dJ A i)) o.op)) o with
     |some (p,sv,ef)=>some ((pY (Eb cfg ops i) p sv).1,⟨(pY (Eb cfg ops i) p sv).2,none⟩,ef)
     |none=>none
 | some (some g)=>match Gi P cfg (stX base (viewAux A T E i base.ck 0) ops fs (dJ A i)) (some (g.2.1,g.2.2.1)) o.op with
   |some (p,.x v)=>some (p.map (fun p=>g.2.2.2→p),⟨.x v,some g⟩,[])
   |_=>none
 |none=>none
def oO(n0 sz:Nat)(A:List (List Nat))(i:Nat)(l:List Nat):Bool:=l.all fun y=>Nat.blt y n0||(Nat.blt y (n0+sz * 3)&&(Nat.beq (ow n0 sz y) i||(dJ A i).any fun k=>Nat.beq (ow n0 sz y) k))
def wk(n0 sz:Nat)(A:List (List Nat))(T:List (Nat×Nat))(i:Nat)(fo:FX)(ef:List (Nat×Chunk)):Bool :=
 hZ fo.sv&&oO n0 sz A i fo.sv.refs&&ef.all fun p=>oO n0 sz A i p.2.refs&&vis A i p.1 T&&oO n0 sz A i [p.1]
def jc(P:Program)(cfg:Cfg)(base:ST)(ops:Array Oper)(A:List (List Nat))(T:List (Nat×Nat))(n0:Nat)(fr0:List (Nat×SV)):List Oper→List FX→Eff→Option (List Prop×List FX×Eff)
 |[],fs,E=>some ([],fs,E)
 | o :: r,fs,E=>match my P cfg base ops A T n0 fr0 fs E fs.length o with
   | some (p,fo,ef)=>bif wk n0 ops.size A T fs.length fo ef then
      match jc P cfg base ops A T n0 fr0 r (fs++[fo]) (ef.map (fun q=>(fs.length,q.1,q.2))++E)with
      |some (ps,fs',E')=>some (match p with |some p=>p::ps |none=>ps,fs',E')
      |none=>none
     else none
   |none=>none
def FQ(E:Eff):List (Nat×Nat):=E.map fun q=>(q.1,q.2.1)
def inT(T:List (Nat×Nat))(E:Eff):Bool:=E.all fun q=>T.any fun t=>Nat.beq t.1 q.1&&Nat.beq t.2 q.2.1
def y6(P:Program)(cfg:Cfg)(base:ST)(ops:Array Oper)(A:List (List Nat))(n0:Nat)(fr0:List (Nat×SV)):Option (List Prop×List FX×Eff) :=
 match jc P cfg base ops A [] n0 fr0 ops.toList [] []with
 | some (ps,fs,E)=>match E with
   |[]=>some (ps,fs,[])
   | q::E=>match jc P cfg base ops A (FQ (q::E)) n0 fr0 ops.toList [] []with
     |some (ps2,fs2,E2)=>bif inT (FQ (q::E)) E2 then some (ps2,fs2,E2)else none
     |none=>none
 |none=>none
def dv(ops:Array Oper)(st:ST):ST:={bN ops st with ck:=st.ck++List.replicate (ops.size * 3) .dead}
def Bz:Chunk→Bool
 |.dead=>true
 |_=>false
def ry(n0:Nat)(ck:List Chunk):List Chunk:=bif (ck.drop n0).all Bz then ck.take n0 else ck
def RP(s:ST):ST:={s with fr:=s.fr.filter fun p=>p.2.lt s.ck.length}
def DG(ops:Array Oper)(st:ST)(fs:List FX)(E:Eff):ST :=
 RP (stX (dv ops st) (ry st.ck.length (iy E (fun _=>true) (dv ops st).ck 0)) ops fs (List.range ops.size))
end Go.Ev
