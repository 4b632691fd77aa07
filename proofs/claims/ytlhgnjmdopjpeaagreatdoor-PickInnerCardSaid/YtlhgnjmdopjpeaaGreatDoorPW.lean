/- An executor for function bodies of the model over data, part PW: a statement whose order Go leaves open, with operations that write, is sound. Conditions: each operation's own. -/
import Derived.Test.YtlhgnjmdopjpeaaGreatDoorPV
namespace Go.Ev
open Go.RowKit
section
variable{Γ:Ctx}{P:Program}{cfg:Cfg}{st base:ST}{V:Vn}{a:Act}{w:World}{ops:Array Oper}{fs:List FX}{A:List (List Nat)}{T:List (Nat×Nat)}{n0:Nat}
theorem tI{b want:Bool}{on:Option (Nat×Nat×Bool×Prop)}{u:Value}(h:(⟨.x (.c (.pd (.bool b))),on⟩:FX).R V u):u = .bool want↔gk want b on:=by
 have hb:∀{u:Value},SV.R V (.x (.c (.pd (.bool b)))) u→u = .bool b:=by
  intro u hu
  have:PR V.H (.bool b) u:=hu
  cases this;rfl
 cases on with
 | none =>
   have:=hb h
   subst this
   simp[gk]
 | some q =>
   obtain⟨h1,h2⟩:=h
   simp only[gk]
   by_cases hq:q.2.2.2
   · have:=hb (h1 hq)
     subst this
     simp[hq]
   · have:=h2 hq
     subst this
     simp[hq,undef]
def AK(ops:Array Oper)(fs:List FX):Prop:=∀(j:Nat) fo g s want q,fs[j]?=some fo→fo.on=some (g,s,want,q)→cS ops g=some s∧∃b on,fs[g]?=some ⟨.x (.c (.pd (.bool b))),on⟩∧q=gk want b on
theorem yw(hon:AK ops fs){all:List Nat}(hall:∀j∈all,∀d fo,cS ops j=some d→fs[j]?=some fo→fo.R V (a.tmps.getD d undef)):∀(l:List Nat),(∀j∈l,j∈all)→∀t sv,(t,sv)∈l4 ops fs all l→cO V a t sv
 |[],_,t,sv,h=>by simp[l4]at h
 | j :: l,hl,t,sv,h=>by
   have ih:=yw hon hall l fun x hx=>hl x (aD _ hx)
   simp only[l4]at h
   split at h
   · rename_i sv' d hfo hd
     rcases aI.1 h with h |h
     · simp only[ae]at h
       obtain⟨rfl,rfl⟩:=h
       exact s8 (hall j (hl j az) t _ hd hfo) rfl
     ·exact ih t sv h
   · rename_i v g s want q d hfo hd
     cases hb:all.any (Nat.beq g)
     ·rw[hb]at h;exact ih t sv h
     · rw[hb]at h
       simp only[cond_true]at h
       rcases aI.1 h with h |h
       · simp only[ae]at h
         obtain⟨rfl,rfl⟩:=h
         obtain⟨hgd,b,on,hgf,rfl⟩:=hon j _ g s want q hfo rfl
         have hgR:=hall g (jy hb) s _ hgd hgf
         have hR:=hall j (hl j az) t _ hd hfo
         have hiff:=tI (want:=want) hgR
         exact⟨fun he=>hR.1 (hiff.1 he),fun he=>hR.2 fun hq=>he (hiff.2 hq)⟩
       ·exact ih t sv h
   ·exact ih t sv h
theorem Sb{X ckv:List Chunk}(r:Rel Γ {dO ops st with ck:=X} V a w)(hb:base.fr=(dO ops st).fr∧base.n=st.n∧base.m=st.m)(hlen:st.m≤ckv.length)(hck:∀(x:Nat) c,ckv[x]?=some c→c = .dead∨X[x]?=some c){l:List Nat}
 (hon:AK ops fs) (hall:∀j∈l,∀d fo,cS ops j=some d→fs[j]?=some fo→fo.R V (a.tmps.getD d undef)):Rel Γ (stX base ckv ops fs l) V a w:=by
 refine{size:=by rw[r.size];exact hb.2.1.symm,defers:=r.defers,slots:=?_,wok:=r.wok.sub hck,few:=⟨by show Γ.m≤base.m;rw[hb.2.2];exact r.few.1,by show base.m≤_;rw[hb.2.2];exact hlen⟩}
 intro t sv hm
 rcases bK.1 hm with hm |hm
 ·exact yw hon hall l (fun _ h=>h) t sv hm
 ·rw[hb.1]at hm;exact r.slots t sv hm
theorem nP{lit:Bool}{An:List Nat}{o:Oper}{g s:Nat}{want:Bool}{q:Prop}(h:qN lit ops fs An o=some (some (g,s,want,q))):o.guard=some (g,want)∧g∈An∧cS ops g=some s∧∃b on,fs[g]?=some ⟨.x (.c (.pd (.bool b))),on⟩∧q=gk want b on:=by
 unfold qN at h
 split at h
 ·simp at h
 · rename_i j want' hgd
   cases hb:An.any (Nat.beq j)
   ·rw[hb]at h;simp at h
   · rw [hb] at h
     simp only[cond_true]at h
     split at h
     · rename_i b on s' hf hs
       cases lit
       · simp only[cond_false,aa,ae]at h
         obtain⟨rfl,rfl,rfl,rfl⟩:=h
         exact⟨hgd,jy hb,hs,b,on,hf,rfl⟩
       · simp only[cond_true]at h
         split at h
         · cases hbw:(b==want')
           · rw[hbw]at h
             simp only[cond_false,aa,ae]at h
             obtain⟨rfl,rfl,rfl,rfl⟩:=h
             exact⟨hgd,jy hb,hs,b,none,hf,rfl⟩
           ·rw[hbw]at h;simp at h
         · rename_i q'
           simp only[aa,ae]at h
           obtain⟨rfl,rfl,rfl,rfl⟩:=h
           exact⟨hgd,jy hb,hs,b,some q',hf,rfl⟩
     ·simp at h
theorem JB{lit:Bool}{An:List Nat}{o:Oper}(h:qN lit ops fs An o=some none):o.guard=none∨∃g s want,o.guard=some (g,want)∧g∈An∧cS ops g=some s∧fs[g]?=some ⟨.x (.c (.pd (.bool want))),none⟩:=by
 unfold qN at h
 split at h
 ·exact .inl (by assumption)
 · rename_i j want' hgd
   cases hb:An.any (Nat.beq j)
   ·rw[hb]at h;simp at h
   · rw [hb] at h
     simp only[cond_true]at h
     split at h
     · rename_i b on s' hf hs
       cases lit
       ·simp at h
       · simp only[cond_true]at h
         split at h
         · cases hbw:(b==want')
           ·rw[hbw]at h;simp at h
           · have e:b=want':=eq_of_beq hbw
             subst e
             exact .inr ⟨j,s',b,hgd,jy hb,hs,hf⟩
         ·simp at h
     ·simp at h
def OkQ(n0 sz:Nat)(A:List (List Nat))(T:List (Nat×Nat))(q:Nat×Nat×Chunk):Prop:=oX n0 sz A q.1 q.2.2.refs=true∧vis A q.1 q.2.1 T=true∧oX n0 sz A q.1 [q.2.1]=true
theorem j1{fr0:List (Nat×SV)}:∀(l:List Oper) (fs0:List FX) (E0:Eff) {ps:List Prop} {fs:List FX} {E:Eff},jh P cfg base ops A T n0 fr0 l fs0 E0=some (ps,fs,E)→(∀q∈ps,q)→(∀q∈E0,q.1<fs0.length) →
 fs.length=fs0.length+l.length∧fs.take fs0.length=fs0∧(∃F,E=F++E0∧∀q∈F,fs0.length≤q.1∧q.1<fs.length∧OkQ n0 ops.size A T q) ∧
 ∀(j:Nat) o,l[j]?=some o→∃p fo ef Ej F,mK P cfg base ops A T n0 fr0 (fs.take (fs0.length+j)) Ej (fs0.length+j) o=some (p,fo,ef)∧Holds p∧fs[fs0.length+j]?=some fo∧wM n0 ops.size A T (fs0.length+j) fo ef=true ∧
  E=F++(ef.map (fun q=>(fs0.length+j,q.1,q.2))++Ej)∧(∀q∈F,fs0.length+j<q.1)∧(∀q∈Ej,q.1<fs0.length+j)
 | [],fs0,E0,ps,fs,E,h,_,_=>by
   simp only[jh,aa,ae]at h
   obtain⟨rfl,rfl,rfl⟩:=h
   exact⟨by simp,by simp,⟨[],rfl,by simp⟩,fun j o hj=>by simp at hj⟩
 | o :: l, fs0,E0,ps,fs,E,h,hps,hE0=>by
   simp only[jh]at h
   split at h
   · rename_i p fo ef hop
     cases hb:wM n0 ops.size A T fs0.length fo ef
     ·rw[hb]at h;simp at h
     · rw [hb]at h
       simp only[cond_true]at h
       split at h
       · rename_i ps' fs' E' hr
         simp only[aa,ae]at h
         obtain⟨rfl,rfl,rfl⟩:=h
         have hq:Holds p:=by
          cases p with
          |none=>trivial
          |some q=>exact hps q az
         have hps':∀x∈ps',x:=by
          cases p with
          |none=>exact hps
          |some q=>exact fun x hx=>hps x (aD _ hx)
         have hE1:∀q∈ef.map (fun q=>(fs0.length,q.1,q.2))++E0,q.1<(fs0++[fo]).length:=by
          intro q hq
          simp only[au,ax,bJ]
          rcases bK.1 hq with hq |hq
          · obtain⟨q',_,rfl⟩:=aM.1 hq
            show fs0.length<_
            omega
          ·have:=hE0 q hq;omega
         obtain⟨h1,h2,⟨F,hF,hFk⟩,h3⟩:=j1 l (fs0++[fo]) _ hr hps' hE1
         simp only[au,ax,bJ]at h1 h2 h3 hFk
         have h4:fs'.take fs0.length=fs0:=by
          have:=congrArg (List.take fs0.length) h2
          rw[fc,dw (by omega)]at this
          simpa using this
         have h5:fs'[fs0.length]?=some fo:=by
          have:=congrArg (fun l=>l[fs0.length]?) h2
          simp only[List.getElem?_take]at this
          rw[if_pos (by omega)]at this
          simpa using this
         refine⟨by simp only[ax];omega,h4,⟨F++ef.map (fun q=>(fs0.length,q.1,q.2)),by rw[hF,bD],fun q hq=>?_⟩,fun j o' hj=>?_⟩
         · rcases bK.1 hq with hq |hq
           · obtain⟨k1,k2,k3⟩:=hFk q hq
             exact⟨by omega,k2,k3⟩
           · obtain⟨q',hq',rfl⟩:=aM.1 hq
             simp only[wM,af]at hb
             have:=an.1 hb.2 q' hq'
             simp only[af]at this
             exact⟨av _,by show fs0.length<_;omega,this.1.1,this.1.2,this.2⟩
         · cases j with
           | zero =>
             simp only[List.getElem?_cons_zero,aa]at hj
             subst hj
             exact⟨p,fo,ef,E0,F,by rw[cF,h4];exact hop,hq,by rw[cF];exact h5,by rw[cF];exact hb,by rw[cF];exact hF,fun q hq=>by have:=(hFk q hq).1;omega,fun q hq=>by rw[cF];exact hE0 q hq⟩
           | succ j =>
             simp only[List.getElem?_cons_succ]at hj
             have:=h3 j o' hj
             rw[show fs0.length+(0+1)+j=fs0.length+(j+1)from by omega]at this
             exact this
       ·simp at h
   ·simp at h
end
theorem vk{x:Nat}{c:Chunk}:∀{ef:List (Nat×Chunk)},ee ef x=some c→(x,c)∈ef
 |[],h=>by simp[ee]at h
 | q :: ef,h=>by
   simp only[ee]at h
   cases hb:Nat.beq q.1 x
   ·rw[hb]at h;exact aD _ (vk h)
   · rw[hb]at h
     simp only[cond_true,aa]at h
     rw[←ak hb,←h]
     exact az
theorem PX{T:List (Nat×Nat)}{E:Eff}(h:inT T E=true){q:Nat×Nat×Chunk}(hq:q∈E):(q.1,q.2.1)∈T:=by
 obtain⟨t,ht,hb⟩:=bf.1 (an.1 h q hq)
 simp only[af]at hb
 have e1:=ak hb.1
 have e2:=ak hb.2
 rw[←e1,←e2];exact ht
theorem Q7{A:List (List Nat)}{i x:Nat}{T:List (Nat×Nat)}(h:vis A i x T=true){k:Nat}(hk:(k,x)∈T):k=i∨k∈dN A i∨i∈dN A k:=by
 have:=an.1 h (k,x) hk
 simp only[Nat.beq_refl,cq,bj,aN]at this
 rcases this with(h |h) |h
 ·exact .inl (ak h)
 ·exact .inr (.inl (jy h))
 ·exact .inr (.inr (jy h))
theorem pK{n0 sz:Nat}{A:List (List Nat)}{i:Nat}{l:List Nat}(h:oX n0 sz A i l=true){y:Nat}(hy:y∈l):y<n0∨(y<n0+sz * 3∧ow n0 sz y=i)∨∃k∈dN A i,y<n0+sz * 3∧ow n0 sz y=k:=by
 have:=an.1 h y hy
 simp only[aN,af]at this
 rcases this with h |⟨h0,h |h⟩
 ·exact .inl (aB h)
 ·exact .inr (.inl ⟨aB h0,ak h⟩)
 · obtain⟨k,hk,hb⟩:=bf.1 h
   exact .inr (.inr ⟨k,hk,aB h0,ak hb⟩)
theorem vG{n0 sz i:Nat}(j:Nat)(hi:i<sz):ow n0 sz (n0+i+j * sz)=i:=by
 unfold ow
 have:n0+i+j * sz - n0=i+j * sz:=by omega
 rw[this,Nat.add_mul_mod_self_right,Nat.mod_eq_of_lt hi]
section
variable{Γ:Ctx}{P:Program}{cfg:Cfg}{st:ST}{V:Vn}{a:Act}{w:World}{ops:Array Oper}{fs:List FX}{T:List (Nat×Nat)}{E:Eff}
def CD(st:ST)(ops:Array Oper)(E:Eff)(D:Nat→Bool):List Chunk:=iD E D (dz ops st).ck 0
theorem lJ(D:Nat→Bool):(CD st ops E D).length=st.ck.length+ops.size * 3:=by
 simp only[CD];rw[mR];simp[dz]
theorem ou(D:Nat→Bool)(x:Nat):(CD st ops E D)[x]?=((dz ops st).ck[x]?).map fun c=>(eA D E x).getD c:=by
 simp only[CD];rw[qi];simp
theorem qA{D:Nat→Bool}{x:Nat}{c:Chunk}:∀{E:Eff},eA D E x=some c→∃k,(k,x,c)∈E∧D k=true
 |[],h=>by simp[eA]at h
 | q :: r,h=>by
   simp only[eA]at h
   cases hb:(Nat.beq q.2.1 x&&D q.1)
   · rw[hb]at h
     obtain⟨k,h1,h2⟩:=qA h
     exact⟨k,aD _ h1,h2⟩
   · rw[hb]at h
     simp only[cond_true,aa]at h
     simp only[af]at hb
     have e:=ak hb.1
     subst e;subst h
     exact⟨q.1,az,hb.2⟩
theorem xp{x:Nat}{c:Chunk}(h:(dz ops st).ck[x]?=some c):(x<st.ck.length∧st.ck[x]?=some c)∨(st.ck.length≤x∧c = .dead):=by
 simp only[dz]at h
 by_cases hx:x<st.ck.length
 ·rw[List.getElem?_append_left hx]at h;exact .inl ⟨hx,h⟩
 · rw[List.getElem?_append_right (by omega)]at h
   exact .inr ⟨by omega,(List.eq_of_mem_replicate (List.mem_of_getElem? h))⟩
theorem yH{c:Chunk}{n:Nat}(h:∀z∈c.refs,z<n):c.lt n=true:=by
 have hb:∀z,z<n→Nat.blt z n=true:=fun z hz=>eX hz
 have hrl:∀r:RC,(∀z∈r.refs,z<n)→r.lt n=true:=by
  intro r hr
  cases r with
  |pd p=>rfl
  |loc i o=>exact hb i (hr i (by simp[RC.refs]))
 have hsl:∀c:SC,(∀z∈c.refs,z<n)→c.lt n=true:=by
  intro c hc
  cases c with
  |pd p=>rfl
  |loc i o=>exact hb i (hc i (by simp[SC.refs]))
  |own i=>exact hb i (hc i (by simp[SC.refs]))
  |oat i j sz o=>exact hb i (hc i (by simp[SC.refs]))
  | fn f a b =>
    simp only[SC.lt,af]
    exact⟨an.2 fun r hr=>hrl r fun z hz=>hc z (cH _ (a7.2 ⟨r,hr,hz⟩)),an.2 fun r hr=>hrl r fun z hz=>hc z (ct _ (a7.2 ⟨r,hr,hz⟩))⟩
 cases c with
 |dead=>rfl
 |own _ _ _=>rfl
 | obj o =>
   cases o with
   |set=>rfl
   |it j d c=>exact hb j (h j (by simp[Chunk.refs,Ob.refs]))
 |cells cs e=>exact an.2 fun c hc=>hsl c fun z hz=>h z (a7.2 ⟨c,hc,hz⟩)
theorem BY (ht : TOk P cfg.tab Γ) (hok:jw ops=true) (hwf:st.wf=true) (hst:st.m≤st.ck.length) {ps:List Prop} (hrun:jh P cfg (dz ops st) ops (cX ops.toList []) T st.ck.length st.fr ops.toList [] []=some (ps,fs,E)) (hps:∀q∈ps,q) (hT:inT T E=true)
 {i:Nat} {o:Oper} (ho:ops[i]?=some o) {D:Nat→Bool} (hDi:D i=false) (hD:∀k o',D k=true→ops[k]?=some o'→∀j∈cR o',D j=true) (hdeps:∀j∈cR o,D j=true)
 (r:Rel Γ {dO ops st with ck:=CD st ops E D} V a w) (hΦ:∀j d fo,D j=true→cS ops j=some d→fs[j]?=some fo→fo.R V (a.tmps.getD d undef)) (hold:∀d sv,(d,SV.x sv)∈st.fr→(∀j,cS ops j=some d→D j=false)→sv.R V (a.tmps.getD d undef)) :
 (Region.wanted o (yielded ops a.tmps)=true→o7 P o a w (rJ Γ (CD st ops E) st.ck.length (fun j V v=>∀d fo,cS ops j=some d→fs[j]?=some fo→fo.R V v) D i V)) ∧
 (Region.wanted o (yielded ops a.tmps)=false→rJ Γ (CD st ops E) st.ck.length (fun j V v=>∀d fo,cS ops j=some d→fs[j]?=some fo→fo.R V v) D i V undef w):=by
 have hedge:=qH hok
 obtain⟨hlen,_,⟨F0,hF0,hEk⟩,hent⟩:=j1 ops.toList [] [] hrun hps (by simp)
 simp only[bJ,ba,cl,aO]at hlen hent hF0 hEk
 subst hF0
 have hi:i<ops.size:=(Array.getElem?_eq_some_iff.1 ho).1
 have hanc:∀j,j∈dN (cX ops.toList []) i→D j=true:=xn hedge hD i fun o' ho' d hd=>by rw[ho]at ho';cases ho';exact hdeps d hd
 have hancD:∀k,D k=true→∀j,j∈dN (cX ops.toList []) k→D j=true:=fun k hk=>xn hedge hD k fun o' ho' d hd=>hD k o' hk ho' d hd
 have hlt:=OZ hedge
 obtain⟨p,fo,ef,Ei,F,hop,hp,hfo,hokx,hEq,hFk,hEik⟩:=hent i o (by simpa using ho)
 simp only[wM,af]at hokx
 obtain⟨⟨hng,hfr⟩,hefok⟩:=hokx
 have hrel:∀q∈E,vis (cX ops.toList []) i q.2.1 T=true→q.1≠i→(q.1∈dN (cX ops.toList []) i∧D q.1=true∧q.1<i)∨(D q.1=false∧q.1 ∉ dN (cX ops.toList []) i∧i<q.1):=by
  intro q hq hv hne
  rcases Q7 hv (PX hT hq)with h |h |h
  ·exact absurd h hne
  ·exact .inl ⟨h,hanc _ h,hlt _ _ h⟩
  · right
    have h1:=hlt _ _ h
    refine⟨?_,fun h2=>by have:=hlt _ _ h2;omega,h1⟩
    cases hDq:D q.1
    ·rfl
    ·have:=hancD q.1 hDq i h;rw[hDi]at this;cases this
 have hview:∀x,vis (cX ops.toList []) i x T=true→eA (fun k=>(dN (cX ops.toList []) i).any (Nat.beq k)) Ei x=eA D E x:=by
  intro x hv
  rw[hEq,mn,mn]
  · refine ln fun q hq hqx=>?_
    have hqE:q∈E:=by rw[hEq];exact ct _ (ct _ hq)
    have hqi:=hEik q hq
    rcases hrel q hqE (by rw[hqx];exact hv) (by omega)with⟨h1,h2,_⟩ |⟨_,_,h3⟩
    ·rw[h2];exact bf.2 ⟨q.1,h1,by simp⟩
    ·omega
  · intro q hq _
    obtain⟨q',_,rfl⟩:=aM.1 hq
    exact hDi
  · intro q hq hqx
    have hqE:q∈E:=by rw[hEq];exact cH _ hq
    have hqi:=hFk q hq
    rcases hrel q hqE (by rw[hqx];exact hv) (by omega)with⟨_,_,h3⟩ |⟨h1,_,_⟩
    ·omega
    ·exact h1
 have hviewget:∀(x:Nat),vis (cX ops.toList []) i x T=true→(viewAux (cX ops.toList []) T Ei i (dz ops st).ck 0)[x]?=(CD st ops E D)[x]?:=by
  intro x hv
  rw[oq,ou,ba,hv,hview x hv]
  rfl
 have hviewsub:∀(x:Nat) c,(viewAux (cX ops.toList []) T Ei i (dz ops st).ck 0)[x]?=some c→c = .dead∨(CD st ops E D)[x]?=some c:=by
  intro x c hc
  cases hv:vis (cX ops.toList []) i x T
  · rw[oq,ba,hv]at hc
    simp only[cond_false,aj]at hc
    obtain⟨_,_,rfl⟩:=hc
    exact .inl rfl
  ·rw[hviewget x hv]at hc;exact .inr hc
 have hvlen:(viewAux (cX ops.toList []) T Ei i (dz ops st).ck 0).length=st.ck.length+ops.size * 3:=by rw[o6];simp[dz]
 have honF : AK ops fs:=by
  intro j fo' g s want q hfj hon'
  have hj:j<ops.size:=by have:=(List.getElem?_eq_some_iff.1 hfj).1;omega
  obtain⟨p',fo2,ef',Ej,F',hop',_,hfo2,_⟩:=hent j ops[j] (by simp[hj])
  rw[hfj]at hfo2
  simp only[aa]at hfo2
  subst hfo2
  have hgx : qN (AF cfg) ops (fs.take j) (dN (cX ops.toList []) j) ops[j]=some (some (g,s,want,q)):=by
   unfold mK at hop'
   split at hop'
   · exfalso
     split at hop'
     · simp only[aa,ae]at hop'
       obtain⟨_,rfl,_⟩:=hop'
       cases hon'
     · split at hop'
       · simp only[aa,ae]at hop'
         obtain⟨_,rfl,_⟩:=hop'
         cases hon'
       · split at hop'
         · simp only[aa,ae]at hop'
           obtain⟨_,rfl,_⟩:=hop'
           cases hon'
         ·simp at hop'
   · rename_i g' hg'
     split at hop'
     · simp only[aa,ae]at hop'
       obtain⟨_,rfl,_⟩:=hop'
       simp only[aa]at hon'
       rw[←hon'];exact hg'
     ·simp at hop'
   ·simp at hop'
  obtain⟨_,h2,h3,b,on,h4,h5⟩:=nP hgx
  refine⟨h3,b,on,?_,h5⟩
  rw[List.getElem?_take]at h4
  split at h4
  ·exact h4
  ·cases h4
 have honT : AK ops (fs.take i):=by
  intro j fo' g s want q hfj hon'
  rw[List.getElem?_take]at hfj
  split at hfj
  · rename_i hji
    obtain⟨h1,b,on,h2,h3⟩:=honF j fo' g s want q hfj hon'
    refine⟨h1,b,on,?_,h3⟩
    rw[List.getElem?_take]
    have hj:j<ops.size:=by have:=(List.getElem?_eq_some_iff.1 hfj).1;omega
    obtain⟨p',fo2,ef',Ej,F',hop',_,hfo2,_⟩:=hent j ops[j] (by simp[hj])
    rw[hfj]at hfo2
    simp only[aa]at hfo2
    subst hfo2
    have hgx : ∃q',qN (AF cfg) ops (fs.take j) (dN (cX ops.toList []) j) ops[j]=some (some (g,s,want,q')):=by
     unfold mK at hop'
     split at hop'
     · exfalso
       split at hop'
       · simp only[aa,ae]at hop'
         obtain⟨_,rfl,_⟩:=hop'
         cases hon'
       · split at hop'
         · simp only[aa,ae]at hop'
           obtain⟨_,rfl,_⟩:=hop'
           cases hon'
         · split at hop'
           · simp only[aa,ae]at hop'
             obtain⟨_,rfl,_⟩:=hop'
             cases hon'
           ·simp at hop'
     · rename_i g' hg'
       split at hop'
       · simp only[aa,ae]at hop'
         obtain⟨_,rfl,_⟩:=hop'
         simp only[aa]at hon'
         exact⟨q,by rw[←hon'];exact hg'⟩
       ·simp at hop'
     ·simp at hop'
    obtain⟨q',hgx⟩:=hgx
    have:=hlt _ _ (nP hgx).2.1
    rw[if_pos (by omega)];exact h2
  ·cases hfj
 have hallT:∀j∈dN (cX ops.toList []) i,∀d fo,cS ops j=some d→(fs.take i)[j]?=some fo→fo.R V (a.tmps.getD d undef):=by
  intro j hj d fo' hd hf
  rw[List.getElem?_take,if_pos (hlt _ _ hj)]at hf
  exact hΦ j d fo' (hanc j hj) hd hf
 have rs:Rel Γ (stX (dz ops st) (viewAux (cX ops.toList []) T Ei i (dz ops st).ck 0) ops (fs.take i) (dN (cX ops.toList []) i)) V a w :=
  Sb r ⟨rfl,rfl,rfl⟩ (by rw[hvlen];omega) hviewsub honT hallT
 have hD'F:∀q∈F,vis (cX ops.toList []) i q.2.1 T=true→(D q.1||Nat.beq q.1 i)=false:=by
  intro q hq hv
  have hqi:=hFk q hq
  rcases hrel q (by rw[hEq];exact cH _ hq) hv (by omega)with⟨_,_,h3⟩ |⟨h1,_,_⟩
  ·omega
  · rw[h1]
    cases hb:Nat.beq q.1 i
    ·rfl
    ·have:=ak hb;omega
 have hCD:∀L,Upd (CD st ops E D) ef L→∀(x:Nat) c,(CD st ops E fun k=>D k||Nat.beq k i)[x]?=some c→L[x]?=some c:=by
  intro L ⟨hL1,hL2⟩ x c hc
  have hx:x<L.length:=by
   rw[hL1,lJ];have:=(List.getElem?_eq_some_iff.1 hc).1;rwa[lJ]at this
  have hLx:=List.getElem?_eq_getElem hx
  rw[ou]at hc
  obtain⟨c0,hc0,hcc⟩:=aj.1 hc
  rcases hL2 x _ hLx with h |⟨h1,h2⟩
  · have hv:vis (cX ops.toList []) i x T=true:=by
     have:∃c',(x,c')∈ef:=⟨_,vk h⟩
     obtain⟨c',hc'⟩:=this
     have:=an.1 hefok _ hc'
     simp only[af]at this
     exact this.1.2
    have he:eA (fun k=>D k||Nat.beq k i) E x=some L[x]:=by
     rw[hEq,mn fun q hq hqx=>hD'F q hq (by rw[hqx];exact hv),xR (by simp),h]
    rw[he]at hcc
    rw[hLx,←hcc];rfl
  · have he:eA (fun k=>D k||Nat.beq k i) E x=eA D E x:=by
     refine ln fun q hq hqx=>?_
     by_cases e:q.1=i
     · exfalso
       rw[hEq]at hq
       rcases bK.1 hq with hq |hq
       ·have:=hFk q hq;omega
       · rcases bK.1 hq with hq |hq
         · obtain⟨q',hq',e'⟩:=aM.1 hq
           have hq2:(i,x,q'.2)∈ef.map (fun q=>(i,q.1,q.2)):=aM.2 ⟨q',hq',by rw[←hqx,←e']⟩
           exact xS hq2 h1
         ·have:=hEik q hq;omega
     · have:Nat.beq q.1 i=false:=by
        cases hb:Nat.beq q.1 i
        ·rfl
        ·exact absurd (ak hb) e
       rw[this,bN]
    rw[he]at hcc
    rw[ou,hc0]at h2
    simp only[bu,aa]at h2
    rw[hLx,←h2,hcc]
 have hkeep:∀V2:Vn,HLe V.H V2.H→(∀y,y<st.ck.length+ops.size * 3→(st.ck.length≤y→ow st.ck.length ops.size y≠i)→V2.σ y=V.σ y∧V2.ov y=V.ov y)→∀j,D j=true→∀u,(∀d fo,cS ops j=some d→fs[j]?=some fo→fo.R V u)→∀d fo,cS ops j=some d→fs[j]?=some fo→fo.R V2 u:=by
  intro V2 hH hV j hj u hu d fo' hd hf
  have hjn:j<ops.size:=by have:=(List.getElem?_eq_some_iff.1 hf).1;omega
  obtain⟨_,fo2,_,_,_,_,_,hfo2,hok2,_⟩:=hent j ops[j] (by simp[hjn])
  rw[hf]at hfo2
  simp only[aa]at hfo2
  subst hfo2
  simp only[wM,af]at hok2
  have hrefs:∀y∈fo'.sv.refs,V2.σ y=V.σ y∧V2.ov y=V.ov y:=by
   intro y hy
   rcases pK hok2.1.2 hy with h |⟨h0,h⟩ |⟨k,hk,h0,h⟩
   ·exact hV y (by omega) fun h2=>by omega
   · refine hV y h0 fun _ e=>?_
     have:j=i:=by omega
     rw[this,hDi]at hj;cases hj
   · have:=hlt _ _ hk
     refine hV y h0 fun _ e=>?_
     have hki:k=i:=by omega
     have:=hancD j hj k hk
     rw[hki,hDi]at this;cases this
  have h1:=hu d fo' hd hf
  unfold FX.R at h1 ⊢
  split
  ·rename_i he;rw[he]at h1;exact SV.R_on hH hrefs h1
  ·rename_i q he;rw[he]at h1;exact⟨fun hq=>SV.R_on hH hrefs (h1.1 hq),h1.2⟩
 have hΦi:∀{V2:Vn} {v:Value},(o.dst≠none→fo.R V2 v)→∀d fo',cS ops i=some d→fs[i]?=some fo'→fo'.R V2 v:=by
  intro V2 v h d fo' hd hf
  rw[hfo]at hf
  simp only[aa]at hf
  subst hf
  refine h fun hn=>?_
  simp[cS,ho,hn]at hd
 have hsame:ef=[]→∀{w':World},Fr (fun _=>False) w w'→WOk Γ (CD st ops E fun k=>D k||Nat.beq k i) V w':=by
  intro he w' hf
  refine(r.wok.kept hf).sub fun x c hc=>.inr (hCD _ ⟨rfl,fun y c hy=>.inr ⟨by rw[he];rfl,hy⟩⟩ x c hc)
 have hnext0:ef=[]→∀{w':World} {v:Value},Fr (fun _=>False) w w'→(o.dst≠none→fo.R V v)→rJ Γ (CD st ops E) st.ck.length (fun j V v=>∀d fo,cS ops j=some d→fs[j]?=some fo→fo.R V v) D i V v w':=by
  intro he w' v hf hv
  exact⟨V,Agree.refl _ _,hsame he hf,fun j _ u hu=>hu,hΦi hv⟩
 have mono:∀{Ψ Ψ':Value→World→Prop},o7 P o a w Ψ→(∀v w',Ψ v w'→Ψ' v w')→o7 P o a w Ψ':=by
  intro Ψ Ψ' h hm
  rcases h with⟨v,w',h1,h2⟩ |⟨w',h1,h2,h3⟩ |⟨g,args,w',h1,h2⟩
  ·exact .inl ⟨v,w',h1,hm _ _ h2⟩
  ·exact .inr (.inl ⟨w',h1,h2,hm _ _ h3⟩)
  ·exact .inr (.inr ⟨g,args,w',h1,h2.mono fun e w2 hq=>by obtain⟨v,rfl,hq⟩:=hq;exact⟨v,rfl,hm _ _ hq⟩⟩)
 unfold mK at hop
 split at hop
 · -- unguarded
   rename_i hgx
   have hwt:Region.wanted o (yielded ops a.tmps)=true:=by
    rcases JB hgx with hg0 |⟨gj,gs,gw,hg1,hg2,hg3,hg4⟩
    ·exact jP hg0
    · have hgR:=hallT gj hg2 gs _ hg3 hg4
      exact kv (a:=a) hg1 hg3 ((tI (want:=gw) hgR).2 rfl)
   refine⟨fun _=>?_,fun hw=>by rw[hwt]at hw;cases hw⟩
   split at hop
   · rename_i p' sv hrd
     simp only[aa,ae]at hop
     obtain⟨rfl,rfl,rfl⟩:=hop
     obtain⟨hp,hsv⟩:=D9 hp
     simp only[hsv]at *
     exact mono (vP ht rs (g:=none) trivial hrd hp) fun v w' hq=>hnext0 trivial hq.1 fun _=>hq.2
   · split at hop
     · rename_i v hold'
       simp only[aa,ae]at hop
       obtain⟨rfl,rfl,rfl⟩:=hop
       obtain⟨d,h1,h2,h3⟩:=JZ hold'
       have hv:=hold d v h2 fun j hj=>by
        cases hDj:D j
        ·rfl
        ·have:=hancD j hDj i (h3 j hj);rw[hDi]at this;cases this
       exact .inl ⟨_,w,by rw[show o={o with op:=.move (.tmp d)}from by rw[←h1]];rfl,hnext0 rfl (Fr.refl _ _) fun _=>hv⟩
     · split at hop
       · rename_i p' sv ef' hfw
         simp only[aa,ae]at hop
         obtain⟨rfl,rfl,rfl⟩:=hop
         obtain⟨hp,hsv⟩:=D9 hp
         simp only[hsv]at *
         generalize hm:c8 (viewAux (cX ops.toList []) T Ei i (dz ops st).ck 0) (Cd (stX (dz ops st) (viewAux (cX ops.toList []) T Ei i (dz ops st).ck 0) ops (fs.take i) (dN (cX ops.toList []) i)) o.op)=m at hfw
         unfold OO at hfw
         cases hmv:m.all (fun x=>vis (cX ops.toList []) i x T && !(Nat.ble st.ck.length x&&Nat.beq (ow st.ck.length ops.size x) i)&&Nat.blt x (stX (dz ops st) (viewAux (cX ops.toList []) T Ei i (dz ops st).ck 0) ops (fs.take i) (dN (cX ops.toList []) i)).ck.length)
         ·rw[hmv]at hfw;simp at hfw
         · rw [hmv]at hfw
           simp only[cond_true]at hfw
           have hmall:=an.1 hmv
           split at hfw
           · rename_i s' hs'
             unfold OU at hs'
             split at hs'
             · rename_i ck0 hpk
               cases hbb:(gD m&&within m (ck0.flatMap Chunk.refs))
               ·rw[hbb]at hs';simp at hs'
               · rw [hbb] at hs'
                 simp only[cond_true,aa]at hs'
                 simp only[af]at hbb
                 obtain⟨hinc,hwin⟩:=hbb
                 have hpkF:fu (CD st ops E D) m=some ck0:=by
                  rw[←hpk]
                  exact rm fun x hx=>by
                   have:=hmall x hx
                   simp only[af]at this
                   exact(hviewget x this.1.1).symm
                 have rsub:=Q3 r.wok rs hpkF hwin hinc
                 split at hfw
                 · rename_i p2 ret ck2 hwr
                   cases hle:(Nat.ble m.length ck2.length&&jM ret)
                   ·rw[hle]at hfw;simp at hfw
                   · rw [hle]at hfw
                     simp only[cond_true,aj,ae]at hfw
                     obtain⟨⟨sv2,ef2⟩,hput,rfl,rfl,rfl⟩:=hfw
                     simp only[af]at hle
                     rw[←hs']at hwr
                     refine mono (HJ ⟨ht.ok,ht.tabs.mono r.wok.hle⟩ rsub hwr hp) fun v w' hq=>?_
                     obtain⟨V2,hw2,hret⟩:=hq
                     have hCl:(CD st ops E D).length=st.ck.length+ops.size * 3:=lJ D
                     have hchunk:∀(x:Nat) c,(CD st ops E D)[x]?=some c→(∀z∈c.refs,z<st.ck.length+ops.size * 3∧(st.ck.length≤z→ow st.ck.length ops.size z≠i))∧(st.ck.length≤x→ow st.ck.length ops.size x=i→c = .dead):=by
                      intro x c hc
                      rw[ou]at hc
                      obtain⟨c0,hc0,hcc⟩:=aj.1 hc
                      cases he:eA D E x with
                      | none =>
                        rw[he]at hcc
                        simp only[Option.getD_none]at hcc
                        subst hcc
                        rcases xp hc0 with⟨h1,h2⟩ |⟨h1,rfl⟩
                        · have hwf2:mc st.ck=true:=by simp only[ST.wf,af]at hwf;exact hwf.2
                          exact⟨fun z hz=>by have:=mb (jt hwf2 h2).2 z hz;exact⟨by omega,fun h3=>by omega⟩,fun h3=>by omega⟩
                        ·exact⟨fun z hz=>by simp[Chunk.refs]at hz,fun _ _=>rfl⟩
                      | some c1 =>
                        rw[he]at hcc
                        simp only[Option.getD_some]at hcc
                        subst hcc
                        obtain⟨k,hk1,hk2⟩:=qA he
                        obtain⟨_,hkn,hq1,hq2,hq3⟩:=hEk _ hk1
                        have hgen:∀z,(z<st.ck.length∨(z<st.ck.length+ops.size * 3∧ow st.ck.length ops.size z=k)∨∃k'∈dN (cX ops.toList []) k,z<st.ck.length+ops.size * 3∧ow st.ck.length ops.size z=k')→z<st.ck.length+ops.size * 3∧(st.ck.length≤z→ow st.ck.length ops.size z≠i):=by
                         intro z hz
                         simp only at hkn
                         rcases hz with h |⟨h0,h⟩ |⟨k',hk',h0,h⟩
                         ·exact⟨by omega,fun h3=>by omega⟩
                         · refine⟨h0,fun _ e=>?_⟩
                           have:k=i:=by omega
                           rw[this,hDi]at hk2;cases hk2
                         · have h1:=hlt _ _ hk'
                           refine⟨h0,fun _ e=>?_⟩
                           have h2:k'=i:=by omega
                           have:=hancD k hk2 k' hk'
                           rw[h2,hDi]at this;cases this
                        refine⟨fun z hz=>hgen z (pK hq1 hz),fun h3 e=>?_⟩
                        exact absurd e ((hgen x (pK hq3 (by simp))).2 h3)
                     have hCwf:mc (CD st ops E D)=true:=by
                      refine an.2 fun c hc=>?_
                      obtain⟨x,hx⟩:=List.getElem?_of_mem hc
                      exact yH fun z hz=>by rw[hCl];exact((hchunk x c hx).1 z hz).1
                     have hjs:∀j,j<3→j * ops.size≤2 * ops.size:=fun j hj=>bQ _ (by omega)
                     have hdead:∀j,j<3→(CD st ops E D)[st.ck.length+i+j * ops.size]?=some .dead:=by
                      intro j hj
                      have hlt2:st.ck.length+i+j * ops.size<(CD st ops E D).length:=by rw[hCl];have:=hjs j hj;omega
                      rw[List.getElem?_eq_getElem hlt2,(hchunk _ _ (List.getElem?_eq_getElem hlt2)).2 (by omega) (vG j hi)]
                     have hslen:(stX (dz ops st) (viewAux (cX ops.toList []) T Ei i (dz ops st).ck 0) ops (fs.take i) (dN (cX ops.toList []) i)).ck.length=st.ck.length+ops.size * 3:=hvlen
                     rw[hslen]at hput
                     have hΓm:Γ.m≤st.ck.length:=aC r.few.1 hst
                     obtain⟨V',L,k1,k2,k3,k4,k5⟩:=G4 r.wok hCwf hCl (by omega) hpkF hwin hinc hdead (by omega) (fun j hj hxm=>by
                      have:=hmall _ hxm
                      rw[vG j hi,show Nat.ble st.ck.length (st.ck.length+i+j * ops.size)=true from eX (by omega)]at this
                      simp only[Nat.beq_refl,Bool.and_self,cq,df,br]at this
                      cases this) (fun j hj d hd hz=>by
                      obtain⟨x,hx⟩:=List.getElem?_of_mem hd
                      exact((hchunk x d hx).1 _ hz).2 (by omega) (vG j hi)) hw2 (aB hle.1) hput hle.2 hret
                     have k2':∀y,y<st.ck.length+ops.size * 3→(st.ck.length≤y→ow st.ck.length ops.size y≠i)→V'.σ y=V.σ y∧V'.ov y=V.ov y:=fun y hy hne=>k2 y hy fun j hj e=>by
                      rw[e]at hne;exact hne (by omega) (vG j hi)
                     exact⟨V',⟨k1,fun y hy=>k2' y (by omega) (fun h3=>by omega)⟩,k3.sub fun x c hc=>.inr (hCD L k4 x c hc),hkeep V' k1 k2',hΦi k5⟩
                 ·simp at hfw
             ·simp at hs'
           ·simp at hfw
       ·simp at hop
 · -- guarded
   rename_i g hgx
   obtain⟨gj,gs,gw,gq⟩:=g
   obtain⟨hg1,hg2,hg3,b,on,hg4,hg5⟩:=nP hgx
   have hgR:=hallT gj hg2 gs _ hg3 hg4
   have hiff:=tI (want:=gw) hgR
   rw[←hg5]at hiff
   split at hop
   · rename_i p' v hrd
     simp only[aa,ae]at hop
     obtain⟨rfl,rfl,rfl⟩:=hop
     have hs:(ops[gj]?).bind (·.dst)=some gs:=hg3
     by_cases hon:a.tmps.getD gs undef = .bool gw
     · have hwt:=kv (a:=a) hg1 hs hon
       refine⟨fun _=>?_,fun hw=>by rw[hwt]at hw;cases hw⟩
       have hq:gq:=hiff.1 hon
       refine mono (vP ht rs (g:=some (gs,gw)) hon hrd (by
        cases p' with
        |none=>trivial
        |some p'=>exact hp hq)) fun u w' hq2=>hnext0 rfl hq2.1 fun _=>⟨fun _=>hq2.2,fun hn=>absurd hq hn⟩
     · have hwf2:=mG (a:=a) hg1 hs hon
       refine⟨fun hw=>(by rw[hwf2]at hw;cases hw),fun _=>?_⟩
       have hnq:¬gq:=fun hq=>hon (hiff.2 hq)
       exact hnext0 rfl (Fr.refl _ _) fun _=>⟨fun hq=>absurd hq hnq,fun _=>rfl⟩
   ·simp at hop
 ·simp at hop
theorem Jv{P:Program}{cfg:Cfg}{base:ST}{A:List (List Nat)}{n0:Nat}{fr0:List (Nat×SV)}{ps:List Prop}(h:AD P cfg base ops A n0 fr0=some (ps,fs,E)):∃T,jh P cfg base ops A T n0 fr0 ops.toList [] []=some (ps,fs,E)∧inT T E=true:=by
 unfold AD at h
 split at h
 · rename_i ps1 fs1 E1 h1
   split at h
   · simp only[aa,ae]at h
     obtain⟨rfl,rfl,rfl⟩:=h
     exact⟨[],h1,rfl⟩
   · split at h
     · rename_i q E2 _ ps2 fs2 E3 h2
       cases hb:inT (GF (q::E2)) E3
       ·rw[hb]at h;simp at h
       · rw[hb]at h
         simp only[cond_true,aa,ae]at h
         obtain⟨rfl,rfl,rfl⟩:=h
         exact⟨_,h2,hb⟩
     ·simp at h
 ·simp at h
theorem Dl{f:Go.Sy.Md}{R:Ending→World→Prop}(ht:TOk P cfg.tab Γ)(hm:P.follows .mixedOrders=true)(hok:(jw ops&&(ka ops).all (fun d=>Nat.blt d st.n)&&st.wf)=true)
 {ps:List Prop} (hrun:AD P cfg (dz ops st) ops (cX ops.toList []) st.ck.length st.fr=some (ps,fs,E)) (hps:∀q∈ps,q) {id:Nat} {k:List Item} (r:Rel Γ st V a w)
 (hk:∀V' a' w',Rel Γ (Et ops st fs E) V' a' w'→Go.Sy.Fin P f R k a' w'):Go.Sy.Fin P f R (.code (.region id ops true)::k) a w:=by
 simp only[af]at hok
 obtain⟨⟨hfo,hds⟩,hwf⟩:=hok
 obtain⟨T,hrun2,hT⟩:=Jv hrun
 obtain⟨hlen,_,⟨F0,hF0,hEk⟩,hent⟩:=j1 ops.toList [] [] hrun2 hps (by simp)
 simp only[bJ,ba,cl,aO]at hlen hent hF0 hEk
 subst hF0
 refine Go.Sy.Fin.region_draw fun t=>?_
 simp only[Region.schedule,hm,b9,if_true]
 have hbase:∀(x:Nat) c,(CD st ops E fun k=>(Array.replicate ops.size false).getD k false)[x]?=some c→c = .dead∨st.ck[x]?=some c:=by
  intro x c hc
  rw[ou]at hc
  obtain⟨c0,hc0,hcc⟩:=aj.1 hc
  have he:eA (fun k=>(Array.replicate ops.size false).getD k false) E x=none:=by
   cases he:eA (fun k=>(Array.replicate ops.size false).getD k false) E x with
   |none=>rfl
   | some c1 =>
     obtain⟨k,_,hk2⟩:=qA he
     simp[Array.getD_eq_getD_getElem?,Array.getElem?_replicate]at hk2
     split at hk2 <;> simp at hk2
  rw[he]at hcc
  simp only[Option.getD_none]at hcc
  subst hcc
  rcases xp hc0 with⟨_,h⟩ |⟨_,h⟩
  ·exact .inr h
  ·exact .inl h
 have rd:Rel Γ {dO ops st with ck:=CD st ops E fun k=>(Array.replicate ops.size false).getD k false} V a w.drew:=by
  have rb:=BX r ops
  refine{size:=rb.size,defers:=rb.defers,slots:=rb.slots,wok:=WOk.sub (ck:=st.ck) (w:=w.drew) (r.wok.kept ⟨rfl,rfl,rfl,av _,fun _ _ _=>rfl⟩) hbase,few:=⟨r.few.1,?_⟩}
  show st.m≤(CD st ops E _).length
  rw[lJ];have:=r.few.2;omega
 refine Me (V:=V) (st:=st) (CD st ops E) (fun j V v=>∀d fo,cS ops j=some d→fs[j]?=some fo→fo.R V v) hfo hds hwf r.few.2 (fun D=>by rw[lJ];omega) ?_ ?_ ops.size t (Array.replicate ops.size false) V (Agree.refl _ _) (by simp) ?_ a w.drew rd (fun d sv hp _=>r.slots d _ hp) ?_ ?_
 · intro i o ho D hDi hD hdeps V1 _ a1 w1 r1 hΦ hold
   exact BY ht hfo hwf r.few.2 hrun2 hps hT ho hDi hD hdeps r1 (fun j d fo hj hd hf=>hΦ j d hj hd d fo hd hf) hold
 · intro D hall V1 _ a1 w1 r1 hΦ
   refine hk V1 a1 w1 ?_
   have honF : AK ops fs:=by
    intro j fo' g s want q hfj hon'
    have hj:j<ops.size:=by have:=(List.getElem?_eq_some_iff.1 hfj).1;omega
    obtain⟨p',fo2,ef',Ej,F',hop',_,hfo2,_⟩:=hent j ops[j] (by simp[hj])
    rw[hfj]at hfo2
    simp only[aa]at hfo2
    subst hfo2
    have hgx : qN (AF cfg) ops (fs.take j) (dN (cX ops.toList []) j) ops[j]=some (some (g,s,want,q)):=by
     unfold mK at hop'
     split at hop'
     · exfalso
       split at hop'
       · simp only[aa,ae]at hop'
         obtain⟨_,rfl,_⟩:=hop'
         cases hon'
       · split at hop'
         · simp only[aa,ae]at hop'
           obtain⟨_,rfl,_⟩:=hop'
           cases hon'
         · split at hop'
           · simp only[aa,ae]at hop'
             obtain⟨_,rfl,_⟩:=hop'
             cases hon'
           ·simp at hop'
     · rename_i g' hg'
       split at hop'
       · simp only[aa,ae]at hop'
         obtain⟨_,rfl,_⟩:=hop'
         simp only[aa]at hon'
         rw[←hon'];exact hg'
       ·simp at hop'
     ·simp at hop'
    obtain⟨_,h2,h3,b,on,h4,h5⟩:=nP hgx
    refine⟨h3,b,on,?_,h5⟩
    rw[List.getElem?_take]at h4
    split at h4
    ·exact h4
    ·cases h4
   have hEall:CD st ops E D=iD E (fun _=>true) (dz ops st).ck 0:=by
    refine List.ext_getElem? fun x=>?_
    rw[ou,qi,ba]
    rw[ln (D:=D) (D':=fun _=>true) fun q hq _=>hall q.1 (by have:=(hEk q hq).2.1;omega)]
   have htrim:∀(x:Nat) c,(rF st.ck.length (iD E (fun _=>true) (dz ops st).ck 0))[x]?=some c→c = .dead∨(CD st ops E D)[x]?=some c:=by
    intro x c hc
    rw[hEall]
    unfold rF at hc
    cases hb:((iD E (fun _=>true) (dz ops st).ck 0).drop st.ck.length).all B7
    ·rw[hb]at hc;exact .inr hc
    · rw[hb]at hc
      simp only[cond_true,List.getElem?_take]at hc
      split at hc
      ·exact .inr hc
      ·cases hc
   have htl:st.m≤(rF st.ck.length (iD E (fun _=>true) (dz ops st).ck 0)).length:=by
    have h1:(iD E (fun _=>true) (dz ops st).ck 0).length=st.ck.length+ops.size * 3:=by rw[mR];simp[dz]
    have h2:=r.few.2
    unfold rF
    cases ((iD E (fun _=>true) (dz ops st).ck 0).drop st.ck.length).all B7
    ·simp only[cond_false];omega
    ·simp only[cond_true,a6];omega
   have rx:=Sb (base:=dz ops st) r1 ⟨rfl,rfl,rfl⟩ htl htrim (l:=List.range ops.size) honF fun j _ d fo hd hf=>hΦ j d hd d fo hd hf
   exact rx.weaken fun p hp=>(aH.1 hp).1
 · unfold leftOf
   refine aC (aY _ _) (by simp)
 · intro i d hi
   simp[Array.getD_eq_getD_getElem?,Array.getElem?_replicate]at hi
   split at hi <;> simp at hi
 · intro i o hi
   simp[Array.getD_eq_getD_getElem?,Array.getElem?_replicate]at hi
   split at hi <;> simp at hi
end
end Go.Ev
