/- Plain: a chart's text is read to the chart; what is read is a chart whose text is no longer. Conditions: each theorem's own. Plain: what is read is a chart that may be, its text no longer. Conditions: each theorem's own. -/
import Derived.Test.YtpfidgnkokidoaaGreatDoorWd
namespace Go.Proofs.YtpfidgnkokidoaaGreatDoor
open Go Go.Ev
set_option maxRecDepth 100000
/-! ### lines between line feeds -/
theorem xF:∀ (r:List Str) (x:Str),(10:UInt8) ∉ x→(∀ y∈r,(10:UInt8) ∉ y)→dC [] (x++r.flatMap (10::·))=x::r
 | [],x,hx,_=>by simp [qp x [] hx]
 | y::r,x,hx,hr=>by
   have e:(y::r).flatMap (10::·)=10::(y++r.flatMap (10::·)):=by simp
   rw [e,tq x [] _ hx,xF r y (hr y az) fun z hz=>hr z (aD _ hz)]; rfl
theorem C0:∀ (r:List Str) (x:Str),(x::r).flatMap (·++[10])=(x++r.flatMap (10::·))++[10]
 | [],x=>by simp
 | y::r,x=>by
   have:=C0 r y
   simp only [bB] at this ⊢
   rw [this]; simp
theorem Cd (xs:List Str) (h0:xs≠[]) (h:∀ y∈xs,(10:UInt8) ∉ y):dF (xs.flatMap (·++[10]))=xs:=by
 cases xs with
 | nil=>exact absurd rfl h0
 | cons x r =>
   rw [C0]
   have he:uS ((x++r.flatMap (10::·))++[10])=true:=by simp [uS]
   rw [dF,jN,if_pos he,List.dropLast_concat]
   exact xF r x (h x az) fun y hy=>h y (aD _ hy)
variable (c:Chart) (n:Nat) {w:Str}
theorem CZ (h:w.all fh=true):(10:UInt8) ∉ w:=fun hm=>absurd (al.1 h _ hm) (by decide)
theorem o8 (h:bI w=true):w.all fh=true:=by simp only [bI,ab] at h; exact h.2
theorem CM:∀ r:List Str,r.all bI=true→(10:UInt8) ∉ glue r
 | [],_=>by simp [glue]
 | w::r,h=>by
   simp only [aE,ab] at h
   have e:glue (w::r)=32::(w++glue r):=by simp [glue]
   rw [e]
   simp only [aN,aZ,not_or]
   exact ⟨by decide,CZ (o8 h.1),CM r h.2⟩
theorem L8 {d:Nat} {ws:List Str} (h:ws.all bI=true):(10:UInt8) ∉ gv (d,ws):=by
 show (10:UInt8) ∉ dW d++cr ws
 rw [aZ,not_or]
 refine ⟨fun hm=>?_,?_⟩
 · rw [dW,List.mem_replicate] at hm; exact absurd hm.2 (by decide)
 · cases ws with
   | nil=>simp [cr]
   | cons w r =>
     simp only [aE,ab] at h
     rw [cr,aZ,not_or]
     exact ⟨CZ (o8 h.1),CM r h.2⟩
theorem IC (ls:List (Nat×List Str)):cO ls=(ls.map gv).flatMap (·++[10]):=by
 unfold cO; rw [List.flatMap_map]
/-! ### the states, one by one -/
def qt:List Tran:=(List.range n).flatMap fun (j:Nat)=>c.trans.filter fun t=>t.src==(j:Int)
def iI:Chart:=⟨c.name,c.events,c.vars,c.states.take n,qt c n⟩
theorem tV:∀ (l:List Ev.Stat) (m:Int),dw m l=true→∀ n,(h:n<l.length)→l[n].depth≤match (l.take n).getLast? with | some s=>s.depth+1 | none=>m
 | s::r,m,h,0,_=>by
   simp only [dw,ab,decide_eq_true_eq] at h
   exact h.1
 | s::r,m,h,n+1,hn=>by
   simp only [dw,ab] at h
   have ih:=tV r (s.depth+1) h.2 n (by simpa using hn)
   simp only [List.getElem_cons_succ,List.take_succ_cons]
   cases hr:r.take n with
   | nil=>rw [hr] at ih; simpa using ih
   | cons x q=>rw [hr] at ih; rw [List.getLast?_cons_cons]; exact ih
theorem MQ (w:WfC c) (n:Nat) (hn:n<c.states.length):Rd1 (iI c n) (gI c n (ETy.get .stat c.states n)) (iI c (n+1)):=by
 have hg:ETy.get .stat c.states n=c.states[n]:=ETy.get_eq (t:=.stat) (List.getElem?_eq_getElem hn)
 rw [hg]
 have hs:eV c.states[n]=true:=al.1 w.states _ (ew hn)
 have hr:c.states[n].depth≤iV (iI c n):=tV c.states 0 w.depths n hn
 have htk:c.states.take (n+1)=c.states.take n++[c.states[n]]:=eO hn
 have hup:qt c (n+1)=qt c n++c.trans.filter fun t=>t.src==(n:Int):=by
  unfold qt; rw [fw,ch]; simp
 have hp:iI c (n+1)=⟨c.name,c.events,c.vars,c.states.take n++[c.states[n]],qt c n++c.trans.filter fun t=>t.src==(n:Int)⟩:=by unfold iI; rw [htk,hup]
 have hln:(c.states.take n).length=n:=by rw [bw]; omega
 rw [hp]
 generalize c.states[n]=s at *
 have hs':=hs
 simp only [eV,ab,decide_eq_true_eq] at hs'
 obtain ⟨_,_,_,hd,_,hen,hle⟩:=hs'
 have h1:=ME (iI c n) s hs hr
 have h2:=IV { iI c n with states:=c.states.take n++[{ s with entry:=[],leave:=[] }] } (c.states.take n) { s with entry:=[],leave:=[] } rfl hd s.entry hen rfl
 have h3:=IQ { iI c n with states:=c.states.take n++[{ s with leave:=[] }] } (c.states.take n) { s with leave:=[] } rfl hd s.leave hle rfl
 have h4:=GI { iI c n with states:=c.states.take n++[s] } (c.states.take n) s rfl hd (c.trans.filter fun t=>t.src==(n:Int)) (fun t ht=>by
  rw [aP,beq_iff_eq] at ht
  refine ⟨?_,by rw [hln]; exact ht.2⟩
  have h5:=al.1 w.trans _ ht.1
  rw [hln]
  simp only [gn,ab,decide_eq_true_eq] at h5 ⊢
  exact ⟨h5.1,by omega,h5.2.2⟩) (qt c n)
 exact h1.cons (h2.app (h3.app h4))
theorem AB (c:Chart) (w:WfC c):∀ n,n≤c.states.length→Rd1 (iI c 0) (dB c n) (iI c n)
 | 0,_=>Rd1.nil _
 | n+1,h=>by
   have e:dB c (n+1)=dB c n++gI c n (ETy.get .stat c.states n):=by
    unfold dB; rw [fw,ch]; simp
   rw [e]
   exact (AB c w n (by omega)).app (MQ c w n (by omega))
theorem rn:∀ (l:List Tran) (n:Int),l.Pairwise (fun t u=>t.src≤u.src)→(∀ t∈l,t.src≤n)→(l.filter fun t=>decide (t.src<n))++(l.filter fun t=>t.src==n)=l
 | [],_,_,_=>rfl
 | t :: r,n,hp,hn=>by
   rw [List.pairwise_cons] at hp
   by_cases ht:t.src<n
   · have h2:(t.src==n)=false:=by rw [beq_eq_false_iff_ne]; omega
     rw [List.filter_cons_of_pos (by simpa using ht),List.filter_cons_of_neg (by rw [h2]; simp),bC,rn r n hp.2 fun u hu=>hn u (aD _ hu)]
   · have h2:t.src=n:=by have:=hn t az; omega
     have h3:∀ u∈t::r,u.src=n:=fun u hu=>by
      rcases aN.1 hu with rfl | hu'
      · exact h2
      · have:=hp.1 u hu'; have:=hn u hu; omega
     have e1:((t::r).filter fun t=>decide (t.src<n))=[]:=by
      rw [eA]; intro u hu; rw [h3 u hu]; simp
     have e2:((t::r).filter fun t=>t.src==n)=t::r:=by
      rw [gi]; intro u hu; rw [h3 u hu]; simp
     rw [e1,e2]; rfl
theorem uo {α β:Type} {l:List α} {f g:α→List β} (h:∀ x∈l,f x=g x):l.flatMap f=l.flatMap g:=by
 induction l with
 | nil=>rfl
 | cons x r ih=>rw [bB,bB,h x az,ih fun y hy=>h y (aD _ hy)]
theorem nw:∀ (n:Nat) (l:List Tran),l.Pairwise (fun t u=>t.src≤u.src)→(∀ t∈l,0≤t.src∧t.src<n)→((List.range n).flatMap fun (j:Nat)=>l.filter fun t=>t.src==(j:Int))=l
 | 0,l,_,h=>by
   cases l with
   | nil=>rfl
   | cons t r=>have:=h t az; omega
 | n + 1,l,hp,h=>by
   have h1:=rn l n hp fun t ht=>by have:=(h t ht).2; omega
   have ih:=nw n (l.filter fun t=>decide (t.src<n)) (hp.sublist List.filter_sublist) fun t ht=>by
    rw [aP,decide_eq_true_eq] at ht
    exact ⟨(h t ht.1).1,ht.2⟩
   rw [fw,ch]
   conv=>rhs; rw [← h1,← ih]
   congr 1
   · refine uo ?_
     intro j hj
     rw [fP] at hj
     rw [List.filter_filter]
     refine List.filter_congr fun t _=>?_
     cases hb:t.src==(j:Int)
     · rfl
     · rw [beq_iff_eq] at hb; simp; omega
   · simp
theorem HT (w:WfC c):iI c c.states.length=c:=by
 unfold iI qt
 rw [List.take_length,nw _ _ w.sorted]
 intro t ht
 have:=al.1 w.trans _ ht
 simp only [gn,ab,decide_eq_true_eq] at this
 exact ⟨this.1,by omega⟩
theorem EM {v:Var} (h:hI v=true):(gU v).all bI=true∧gU v≠[]:=by
 have hn:aO v.name=true:=by simp only [hI,ab] at h; exact h.1
 unfold gU
 split
 · refine ⟨?_,by simp⟩
   have:bI (if v.init.a=1 then fm else fS)=true:=by split <;> decide
   simp only [aE,de hn,this]; decide
 · split
   · refine ⟨?_,by simp⟩
     simp only [aE,de hn,lI,sd]; decide
   · refine ⟨?_,by simp⟩
     simp only [aE,de hn,lI]; decide
theorem Cz {c:Chart} (w:WfC c) {i:Nat} {s :  Ev.Stat} (hs:eV s=true):∀ l∈gI c i s,l.2.all bI=true:=by
 have hs':=hs
 simp only [eV,ab,decide_eq_true_eq] at hs'
 obtain ⟨_,_,hn,_,hi,hen,hle⟩:=hs'
 have hblk:∀ (d:Nat) (k:Str) (b:List Deed),bI k=true→jw b=true→∀ l∈dV d k b,l.2.all bI=true:=by
  intro d k b hk hb l hl
  unfold dV at hl
  split at hl
  · cases hl
  · rename_i hne
    simp only [aV] at hl
    subst hl
    simp only [aE,hk,(iR ((nr hb).resolve_left hne)).2.2]; rfl
 intro l hl
 rcases aN.1 hl with rfl | hl
 · unfold iE
   have:(if s.initial=[] then [] else [s.initial]:List Str).all bI=true:=by
    split
    · rfl
    · rename_i hne
      cases h2:pz s.kind
      · rw [h2,cond_false,beq_iff_eq] at hi; exact absurd hi hne
      · rw [h2,cond_true] at hi; simp only [aE,de hi]; rfl
   simp only [aE,ny,de hn,this]; rfl
 · rcases aZ.1 hl with hl | hl
   · exact hblk _ _ _ (by decide) hen l hl
   · rcases aZ.1 hl with hl | hl
     · exact hblk _ _ _ (by decide) hle l hl
     · obtain ⟨t,ht,rfl⟩:=bo.1 hl
       have h5:=al.1 w.trans _ (aP.1 ht).1
       simp only [gn,ab,aF,beq_iff_eq,List.isEmpty_iff,decide_eq_true_eq] at h5
       obtain ⟨_,_,he,hg,ht,ha⟩:=h5
       have v1:bI (orS t.event)=true:=jo fun hn=>sJ (he.resolve_left hn)
       have v2:bI (orS (bL t.guard))=true:=jo fun hn=>by
        unfold bL at hn ⊢
        split
        · rename_i hr; exact vN hr
        · rename_i hr; rw [if_neg hr] at hn; exact absurd rfl hn
       have v3:bI (orS t.dst)=true:=jo fun hn=>de (ht.resolve_left hn)
       have v4:bI (orS (aU t.acts))=true:=jo fun hn=>by
        unfold aU at hn ⊢
        split
        · rename_i hr; exact kO hr
        · rename_i hr; rw [if_neg hr] at hn; exact absurd rfl hn
       show ([wOn,orS t.event,orS (bL t.guard),orS t.dst,orS (aU t.acts)]:List Str).all bI=true
       simp only [aE,v1,v2,v3,v4]; decide
theorem AU {c:Chart} (w:WfC c):∀ l∈iO c,l.2.all bI=true:=by
 intro l hl
 rcases aN.1 hl with rfl | hl
 · simp only [aE,de w.name]; decide
 · rcases aZ.1 hl with hl | hl
   · obtain ⟨e,he,rfl⟩:=bo.1 hl
     simp only [aE,de (al.1 w.events _ he)]; decide
   · rcases aZ.1 hl with hl | hl
     · obtain ⟨v,hv,rfl⟩:=bo.1 hl
       exact (EM (al.1 w.vars _ hv)).1
     · unfold dB at hl
       rw [aT] at hl
       obtain ⟨i,hi,hl⟩:=hl
       rw [fP] at hi
       refine Cz w ?_ l hl
       rw [ETy.get_eq (t:=.stat) (List.getElem?_eq_getElem hi)]
       exact al.1 w.states _ (ew hi)
theorem Ib {n:Str} (h:aO n=true):dK c 0 (gv (0,[ir,n]))=some { c with name:=n }:=by
 have hv:([ir,n]:List Str).all bI=true:=by simp only [aE,de h]; decide
 obtain ⟨h1,h2⟩:=uK 0 (by simp) hv
 have e1:bE (gv (0,[ir,n]))=0:=h1
 have e2:bq (gv (0,[ir,n]))=[ir,n]:=h2
 have hok:gP (gv (0,[ir,n]))=true:=by unfold gP; rw [e2]; exact hv
 rw [dK,if_pos hok,if_pos rfl,rF,e1,e2,if_pos ⟨rfl,rfl,rfl,h⟩]; rfl
theorem FC {c:Chart} (w:WfC c):dq c7 0 (dF (bW c))=(c,none):=by
 have e:dF (bW c)=(iO c).map gv:=by
  rw [bW,IC]
  refine Cd _ (by simp [iO]) fun y hy=>?_
  obtain ⟨l,hl,rfl⟩:=bo.1 hy
  exact L8 (AU w l hl)
 rw [e,iO,ay,dq,Ib c7 w.name]
 have h1:=xM { c7 with name:=c.name } rfl c.events w.events
 have h2:=CU { c7 with name:=c.name,events:=c7.events++c.events } rfl c.vars w.vars
 have h3:=AB c w c.states.length (aw _)
 rw [HT c w] at h3
 have e0:iI c 0={ c7 with name:=c.name,events:=c7.events++c.events,vars:=c7.vars++c.vars }:=by simp [iI,qt,c7]
 rw [e0] at h3
 exact (h1.app (h2.app h3)) 1 (by decide)
theorem Fv {c:Chart} (w:WfC c) (hl:(bW c).length≤6000):aq (bW c)=(c,0,0):=by
 rw [aq,if_neg (by omega),FC w]
end Go.Proofs.YtpfidgnkokidoaaGreatDoor
namespace Go.Proofs.YtpfidgnkokidoaaGreatDoor
open Go Go.Ev
set_option maxRecDepth 100000
/-! ### blocks' and guards' texts are no longer than what was read -/
theorem DG {p:Str} {d:Deed} (h:fk p=some d):(eH d).length≤p.length:=by
 have hok:=A8 h
 unfold fk at h
 split at h
 · rename_i h1
   obtain ⟨_,rfl⟩:=cJ h
   obtain ⟨r,rfl⟩:=kc h1
   rw [(pq b6 r).2]; exact aw _
 · split at h
   · rename_i h1
     obtain ⟨_,rfl⟩:=cJ h
     obtain ⟨r,rfl⟩:=kc h1
     rw [(pq c6 r).2]; exact aw _
   · obtain ⟨⟨h1,h2,h3⟩,rfl⟩:=cJ h
     obtain ⟨t,ht,e,_,hle⟩:=vG h2
     have e1:(aR (b7 p)).1=t.flat:=by rw [e]
     have hs:=(Hg p h1).1
     have hl:=congrArg List.length hs
     simp only [ag,ah] at hl
     show (dp p++[61]++fA (aR (b7 p)).1).length≤p.length
     have h5:(t.body.length:Int)≤((b7 p).length:Int):=hle
     rw [e1,ji ht]
     simp only [ag,ah,aj]; omega
theorem xe:∀ (ps:List Str) (l:List Deed),readAll ps=some l→All2 (fun (a b:Str)=>a.length≤b.length) (l.map eH) ps
 | [],l,h=>by simp only [readAll,aa] at h; subst h; exact .nil
 | p :: r,l,h=>by
   simp only [readAll] at h
   split at h
   · rename_i d m h1 h2
     simp only [aa] at h; subst h
     exact .cons (DG h1) (xe r m h2)
   · cases h
theorem vA:∀ {a b:List Str},All2 (fun (x y:Str)=>x.length≤y.length) a b→(Lib.joinTail [59] a).length≤(Lib.joinTail [59] b).length
 | _,_,.nil=>aw _
 | x::a,y::b,.cons h t=>by
   have ih:=vA t
   have e:∀ (x:Str) (r:List Str),Lib.joinTail [59] (x::r)=59::(x++Lib.joinTail [59] r):=fun x r=>by simp [Lib.joinTail]
   rw [e,e]; simp only [ah,ag]; omega
theorem oT:∀ (s cur:Str),Lib.join (ba cur s) [59]=cur++s
 | [],cur=>by simp [ba,Lib.join_cons,Lib.joinTail]
 | c :: r,cur=>by
   rw [ba]
   cases h:c==59
   · rw [cond_false,oT r]; simp
   · rw [cond_true,Lib.join_cons]
     have h2:Lib.joinTail [59] (ba [] r)=59::Lib.join (ba [] r) [59]:=by
      have hne:ba [] r≠[]:=by
       intro e; have:=jD r []; rw [e] at this; simp at this
      cases hp:ba [] r with
      | nil=>exact absurd hp hne
      | cons x q=>rw [Lib.join_cons]; simp [Lib.joinTail]
     rw [h2,oT r,eq_of_beq h]; rfl
theorem nB {s:Str} (h:aY s):(gz (aL s).1).length≤s.length:=by
 have h0:(aL s).2=0:=h
 unfold aL at h0 ⊢
 split at h0
 · exact absurd h0 (by decide)
 · rename_i h1
   rw [if_neg h1]
   split at h0
   · exact absurd h0 (by decide)
   · rename_i h2
     rw [if_neg h2]
     split at h0
     · rename_i l hl
       simp only [hl]
       have ha:=xe _ _ hl
       have hg:=oT s []
       show (Lib.join (l.map eH) [59]).length≤_
       generalize ba [] s=ps at *
       conv=>rhs; rw [show s=Lib.join ps [59] by rw [hg]; rfl]
       generalize l.map eH=xs at ha ⊢
       cases ha with
       | nil=>exact aw _
       | cons h3 h4 =>
         rw [Lib.join_cons,Lib.join_cons,ag,ag]
         have:=vA h4; omega
     · exact absurd h0 (by decide)
theorem B0 {s:Str} (h:cy s):cS (aR s).1=true∧(fA (aR s).1).length≤s.length:=by
 obtain ⟨t,ht,e,hl,hle⟩:=vG h
 have e1:(aR s).1=t.flat:=by rw [e]
 rw [e1]
 refine ⟨Jd ht hl,?_⟩
 rw [ji ht]
 have:(t.body.length:Int)≤(s.length:Int):=hle
 omega
/-! ### lengths of lines -/
def iA (l:Nat×List Str):Nat:=(gv l).length+1
theorem tQ:∀ {a b:List Str},All2 (fun (x y:Str)=>x.length≤y.length) a b→(glue a).length≤(glue b).length
 | _,_,.nil=>aw _
 | x::a,y::b,.cons h t=>by
   have ih:=tQ t
   have e:∀ (w:Str) (r:List Str),glue (w::r)=32::(w++glue r):=fun w r=>by simp [glue]
   rw [e,e]; simp only [ah,ag]; omega
theorem Cm {a b:List Str} (h:All2 (fun (x y:Str)=>x.length≤y.length) a b):(cr a).length≤(cr b).length:=by
 cases h with
 | nil=>exact aw _
 | cons h3 h4=>rw [cr,cr,ag,ag]; have:=tQ h4; omega
variable {l:Str} {w:List Str} (c:Chart) {n:Nat}
theorem iG {ws:List Str} (h:All2 (fun (x y:Str)=>x.length≤y.length) ws (bq l)):iA (bE l,ws)≤l.length+1:=by
 have e:=congrArg List.length (Gw l)
 rw [ag,bw] at e
 have hl:=tl l
 show (dW (bE l)++cr ws).length+1≤_
 rw [ag,dW,List.length_replicate]
 have h2:=Cm h
 omega
theorem kg:∀ ws:List Str,All2 (fun (x y:Str)=>x.length≤y.length) ws ws
 | []=>.nil
 | _::r=>.cons (aw _) (kg r)
theorem GA (ls:List (Nat×List Str)):(cO ls).length=(ls.map iA).sum:=by
 induction ls with
 | nil=>rfl
 | cons l r ih =>
   have e:cO (l::r)=gv l++[10]++cO r:=by simp [cO]
   rw [e,ay,eI,← ih]
   simp only [ag,ah,aj,iA]
def K4:List (Nat×List Str):=c.events.map (fun e=>(0,[gl,e]))++(c.vars.map (fun v=>(0,gU v))++dB c c.states.length)
def nK:Nat:=((K4 c).map iA).sum
theorem Ho:(bW c).length=iA (0,[ir,c.name])+nK c:=by
 rw [bW,GA]; rfl
theorem j0:nK c=((c.events.map fun e=>iA (0,[gl,e])).sum)+((c.vars.map fun v=>iA (0,gU v)).sum)+((dB c c.states.length).map iA).sum:=by
 unfold nK K4
 simp only [cn,eZ,eJ,Function.comp_def]; omega
/-! ### a line's words -/
theorem J7 {k:Str} {n:Nat} (hk:an (bq l) 0=k) (hn:((bq l).drop 1).length=n) (h0:bq l≠[]):bq l=k::(bq l).drop 1∧(bq l).length=n+1:=by
 cases h:bq l with
 | nil=>exact absurd h h0
 | cons w r =>
   rw [h] at hk hn
   have:w=k:=hk
   subst this
   exact ⟨rfl,by simpa using hn⟩
theorem oS (h:w.length=1):w=[an w 0]:=by
 match w,h with
 | [a],_=>rfl
theorem qV (h:w.length=2):w=[an w 0,an w 1]:=by
 match w,h with
 | [a,b],_=>rfl
theorem ph (h:w.length=4):w=[an w 0,an w 1,an w 2,an w 3]:=by
 match w,h with
 | [a,b,c,d],_=>rfl
theorem gK {c:Chart} {d:Int} {w:List Str} {n:Nat} (h:eG c d w (n:Int)=true):d=0∧c.states=[]∧w.length=n∧aO (an w 0)=true:=by
 simp only [eG,ab,beq_iff_eq] at h
 obtain ⟨⟨⟨h1,h2⟩,h3⟩,h4⟩:=h
 exact ⟨h1,b4.1 (by omega),by omega,h4⟩
/-! ### charts under way -/
structure Pre (c:Chart):Prop where
 events:c.events.all aO=true
 vars:c.vars.all hI=true
 states:c.states.all eV=true
 depths:dw 0 c.states=true
 trans:c.trans.all (gn c.states.length)=true
 sorted:c.trans.Pairwise fun t u=>t.src≤u.src
theorem Pre.zero:Pre c7:=⟨rfl,rfl,rfl,rfl,rfl,.nil⟩
theorem vO:∀ (l:List Ev.Stat) (m:Int) (s :  Ev.Stat),dw m l=true→(s.depth≤match l.getLast? with | some x=>x.depth+1 | none=>m)→dw m (l++[s])=true
 | [],m,s,_,h=>by simp only [bN,dw,c8,decide_eq_true_eq]; exact h
 | [x],m,s,h,hs=>by
   simp only [dw,c8,decide_eq_true_eq,bC,bN,ab] at h ⊢
   exact ⟨h,hs⟩
 | x::y::r,m,s,h,hs=>by
   simp only [bC] at *
   rw [dw,ab] at h ⊢
   rw [List.getLast?_cons_cons] at hs
   exact ⟨h.1,vO (y::r) (x.depth+1) s h.2 hs⟩
theorem nM:∀ (l:List Ev.Stat) (m:Int) (s :  Ev.Stat),dw m (l++[s])=true→dw m l=true∧∀ s' :  Ev.Stat,s'.depth=s.depth→dw m (l++[s'])=true
 | [],m,s,h=>by
   refine ⟨rfl,fun s' e=>?_⟩
   simp only [bN,dw,c8,decide_eq_true_eq] at h ⊢
   rw [e]; exact h
 | x::r,m,s,h=>by
   rw [bC,dw,ab] at h
   obtain ⟨h1,h2⟩:=nM r (x.depth+1) s h.2
   refine ⟨by rw [dw,ab]; exact ⟨h.1,h1⟩,fun s' e=>?_⟩
   rw [bC,dw,ab]; exact ⟨h.1,h2 s' e⟩
theorem HL {m:Nat} (h:n≤m) {t:Tran} (ht:gn n t=true):gn m t=true:=by
 simp only [gn,ab,decide_eq_true_eq] at ht ⊢
 exact ⟨ht.1,by omega,ht.2.2⟩
theorem l8 {α:Type} {p:α→Bool} {l:List α} {x:α} (h:l.all p=true) (hx:p x=true):(l++[x]).all p=true:=by
 rw [aQ,h]; simp [hx]
theorem pD {l:List Ev.Stat} {s :  Ev.Stat} (h:l.getLast?=some s):l=l.dropLast++[s]:=by
 obtain ⟨ys,rfl⟩:=List.getLast?_eq_some_iff.1 h
 simp
theorem BX {c c':Chart} {i:Nat} {s :  Ev.Stat} (h:(c.trans.filter fun t=>t.src==(i:Int))=c'.trans.filter fun t=>t.src==(i:Int)):gI c i s=gI c' i s:=by
 unfold gI; rw [h]
theorem j5 {c c':Chart} {n:Nat} (h1:∀ i,i<n→ETy.get .stat c.states i=ETy.get .stat c'.states i) (h2:∀ i:Nat,i<n→(c.trans.filter fun t=>t.src==(i:Int))=c'.trans.filter fun t=>t.src==(i:Int)):dB c n=dB c' n:=by
 unfold dB
 refine uo fun i hi=>?_
 rw [fP] at hi
 rw [h1 i hi]; exact BX (h2 i hi)
theorem iP (n:Nat):dB c (n+1)=dB c n++gI c n (ETy.get .stat c.states n):=by
 unfold dB; rw [fw,ch]; simp
theorem wN {l:List Ev.Stat} {s :  Ev.Stat}:ETy.get .stat (l++[s]) l.length=s:=ETy.get_eq (t:=.stat) (by simp)
theorem tH {l r:List Ev.Stat} {i:Nat} (h:i<l.length):ETy.get .stat (l++r) i=ETy.get .stat l i:=by
 unfold ETy.get
 simp only [List.getD_eq_getElem?_getD,List.getElem?_append_left h]
theorem sR {c c':Chart} {st:List Ev.Stat} {s s':Ev.Stat} (hc:c.states=st++[s]) (hc':c'.states=st++[s']) (he:c'.events=c.events) (hv:c'.vars=c.vars) (ht:∀ i:Nat,i<st.length→(c'.trans.filter fun t=>t.src==(i:Int))=c.trans.filter fun t=>t.src==(i:Int)) :
 nK c'+((gI c st.length s).map iA).sum=nK c+((gI c' st.length s').map iA).sum:=by
 rw [j0,j0,he,hv]
 have e:dB c' st.length=dB c st.length:=j5 (fun i hi=>by rw [hc,hc',tH hi,tH hi]) ht
 have l1:c.states.length=st.length+1:=by rw [hc]; simp
 have l2:c'.states.length=st.length+1:=by rw [hc']; simp
 rw [l1,l2,iP,iP,e]
 have g1:ETy.get .stat c.states st.length=s:=by rw [hc]; exact wN
 have g2:ETy.get .stat c'.states st.length=s':=by rw [hc']; exact wN
 rw [g1,g2]
 simp only [cn,eJ]; omega
theorem jf (i:Nat) (s :  Ev.Stat):((gI c i s).map iA).sum=iA (s.depth.toNat,iE s)+((dV s.depth.toNat iz s.entry).map iA).sum+((dV s.depth.toNat iW s.leave).map iA).sum+(((c.trans.filter fun t=>t.src==(i:Int)).map fun t=>iA (s.depth.toNat+1,kU t)).sum):=by
 unfold gI
 simp only [ay,eI,cn,eJ,eZ,Function.comp_def]; omega
theorem Ky {c:Chart} (p:Pre c) {i:Nat} (h:c.states.length≤i):(c.trans.filter fun t=>t.src==(i:Int))=[]:=by
 rw [eA]
 intro t ht
 have:=al.1 p.trans _ ht
 simp only [gn,ab,decide_eq_true_eq] at this
 simp only [beq_iff_eq]; omega
theorem tN {d:Nat} {w:Str} {l:List Deed} (h:dy l=true):((dV d w l).map iA).sum=iA (d+1,[w,gz l]):=by
 unfold dV aU
 rw [if_neg (sQ h),if_pos h]; simp
theorem mw {n:Int} (h0 : -1099511627776≤n) (h1:n≤1099511627776):kl n=true:=by
 simp only [kl,ab,decide_eq_true_eq]; exact ⟨h0,h1⟩
def Step (c':Chart) (l:Str):Prop:=Pre c'∧c'.name=c.name∧nK c'≤nK c+(l.length+1)
theorem tI {c:Chart} {l:Str} {v:Var} (p:Pre c) (hv:hI v=true) (hl:bq l=gU v) (hd:bE l=0):Step c { c with vars:=c.vars++[v] } l:=by
 refine ⟨⟨p.events,l8 p.vars hv,p.states,p.depths,p.trans,p.sorted⟩,rfl,?_⟩
 rw [j0,j0]
 have e:dB { c with vars:=c.vars++[v] } c.states.length=dB c c.states.length:=j5 (fun _ _=>rfl) fun _ _=>rfl
 have h1:=iG (l:=l) (ws:=gU v) (by rw [hl]; exact kg _)
 rw [hd] at h1
 simp only [e,cn,ay,cb,eJ,eI,List.sum_nil]; omega
theorem HU {c c':Chart} {l:Str} (p:Pre c) (h:ct c (bE l:Nat) (an (bq l) 0) ((bq l).drop 1)=some c'):Step c c' l:=by
 have hne:=Ac l
 generalize hk:an (bq l) 0=k at h
 generalize hw:(bq l).drop 1=w at h
 have hwo:∀ n,w.length=n→bq l=k::w:=fun n hn=>by
  have:=(J7 (n:=n) hk (by rw [hw]; exact hn) hne).1; rw [hw] at this; exact this
 have st:∀ (kind:Int) (n:Nat),1≤kind→kind≤6→k=iU kind→n=(bif pz kind then 2 else 1)→aM kind n c (bE l:Nat) w=some c'→Step c c' l:=by
  intro kind n h1 h6 hkk hn h
  unfold aM at h
  obtain ⟨⟨g1,g2,g3,g4⟩,rfl⟩:=cJ h
  have hln:=hwo n g2
  have hso:eV ⟨an w 0,kind,(bE l:Nat),if n=2 then an w 1 else [],[],[]⟩=true:=by
   simp only [eV,ab,decide_eq_true_eq]
   refine ⟨h1,h6,g3,eE _,?_,rfl,rfl⟩
   cases h2:pz kind
   · rw [h2,cond_false] at hn; subst hn; rfl
   · rw [h2,cond_true] at hn; subst hn; exact g4
  have hhead:iE ⟨an w 0,kind,(bE l:Nat),if n=2 then an w 1 else [],[],[]⟩=k::w:=by
   cases h2:pz kind
   · rw [h2,cond_false] at hn; subst hn
     rw [oS g2,hkk]; rfl
   · rw [h2,cond_true] at hn; subst hn
     have:an w 1≠[]:=by intro e; have g4':aO (an w 1)=true:=g4; rw [e] at g4'; exact absurd g4' (by decide)
     show iU kind::an w 0::(if an w 1=[] then [] else [an w 1])=_
     rw [if_neg this,hkk]
     conv=>rhs; rw [qV g2]
  refine ⟨⟨p.events,p.vars,l8 p.states hso,vO _ _ _ p.depths g1,?_,p.sorted⟩,rfl,?_⟩
  · rw [al]
    intro t ht
    refine HL ?_ (al.1 p.trans t ht)
    simp
  · rw [j0,j0]
    have e1:dB { c with states:=c.states++[⟨an w 0,kind,(bE l:Nat),if n=2 then an w 1 else [],[],[]⟩] } c.states.length=dB c c.states.length:=j5 (fun i hi=>tH hi) fun _ _=>rfl
    have e2:(c.states++[(⟨an w 0,kind,(bE l:Nat),if n=2 then an w 1 else [],[],[]⟩ :  Ev.Stat)]).length=c.states.length+1:=by simp
    simp only [e2,iP,e1,wN,cn,eJ,jf,Ky p (aw _),hhead]
    have h3:=iG (l:=l) (ws:=k::w) (by rw [hln]; exact kg _)
    have e3:((bE l:Nat):Int).toNat=bE l:=bf _
    rw [e3]
    have e4:∀ d k,((dV d k []).map iA).sum=0:=fun d k=>rfl
    simp only [e4,cb,List.sum_nil]; omega
 unfold ct at h
 by_cases hke:k=gl
 · rw [if_pos hke] at h
   unfold jE at h
   obtain ⟨g,rfl⟩:=cJ h
   obtain ⟨hd,hs,hn,hnm⟩:=gK (n:=1) g
   have hln:=hwo 1 hn
   refine ⟨⟨l8 p.events hnm,p.vars,p.states,p.depths,p.trans,p.sorted⟩,rfl,?_⟩
   rw [j0,j0]
   have e:dB { c with events:=c.events++[an w 0] } c.states.length=dB c c.states.length:=j5 (fun _ _=>rfl) fun _ _=>rfl
   have h1:=iG (l:=l) (ws:=[gl,an w 0]) (by rw [hln,oS hn,hke]; exact kg _)
   rw [show bE l=0 by omega] at h1
   simp only [e,cn,ay,cb,eJ,eI,List.sum_nil]; omega
 rw [if_neg hke] at h
 clear hke
 by_cases hke:k=nJ
 · rw [if_pos hke] at h
   unfold nH at h
   obtain ⟨⟨g,n1,n2,n3⟩,rfl⟩:=cJ h
   obtain ⟨hd,hs,hn,hnm⟩:=gK (n:=4) g
   have hln:=hwo 4 hn
   obtain ⟨b1,b1',b1''⟩:=mE n1
   obtain ⟨b2,b2',b2''⟩:=mE n2
   obtain ⟨b3,b3',b3''⟩:=mE n3
   refine tI p ?_ ?_ (by omega)
   · simp only [NT,hI,hnm,mw b1' b1'',mw b2' b2'',mw b3' b3'']; rfl
   · rw [hln,hke]
     conv=>lhs; rw [ph hn]
     show _=[nJ,an w 0,Lib.itoa (bb (an w 1)).1,Lib.itoa (bb (an w 2)).1,Lib.itoa (bb (an w 3)).1]
     rw [b1,b2,b3]
 rw [if_neg hke] at h
 clear hke
 by_cases hke:k=jL
 · rw [if_pos hke] at h
   unfold kj at h
   obtain ⟨⟨g,n1⟩,rfl⟩:=cJ h
   obtain ⟨hd,hs,hn,hnm⟩:=gK (n:=2) g
   have hln:=hwo 2 hn
   refine tI p ?_ ?_ (by omega)
   · have hb:((if an w 1=fm then (1:Int) else 0)==0||(if an w 1=fm then (1:Int) else 0)==1)=true:=by split <;> rfl
     simp only [hI,hnm,hb]; rfl
   · rw [hln,hke]
     conv=>lhs; rw [qV hn]
     show _=[jL,an w 0,if (if an w 1=fm then (1:Int) else 0)=1 then fm else fS]
     rcases n1 with n1 | n1
     · rw [n1,if_pos rfl,if_pos rfl]
     · rw [n1,if_neg (by decide)]
 rw [if_neg hke] at h
 clear hke
 by_cases hke:k=jH
 · rw [if_pos hke] at h
   unfold jc at h
   obtain ⟨⟨g,n1,n2,n3⟩,rfl⟩:=cJ h
   obtain ⟨hd,hs,hn,hnm⟩:=gK (n:=4) g
   have hln:=hwo 4 hn
   obtain ⟨b1,b1',b1''⟩:=mE n1
   obtain ⟨b2,b2',b2''⟩:=mE n2
   obtain ⟨b3,b3',b3''⟩:=j9 n3
   refine tI p ?_ ?_ (by omega)
   · simp only [hI,hnm,mw b1' b1'',mw b2' b2'',show pIn (ptA (an w 3))=true from b3,show pIn (ptB (an w 3))=true from b3']; rfl
   · rw [hln,hke]
     conv=>lhs; rw [ph hn]
     show _=[jH,an w 0,Lib.itoa (bb (an w 1)).1,Lib.itoa (bb (an w 2)).1,df (ptA (an w 3)) (ptB (an w 3))]
     rw [b1,b2]
     have:df (ptA (an w 3)) (ptB (an w 3))=an w 3:=b3''
     rw [this]
 rw [if_neg hke] at h
 clear hke
 by_cases hke:k=mB
 · rw [if_pos hke] at h
   exact st 1 1 (by decide) (by decide) hke rfl h
 rw [if_neg hke] at h
 clear hke
 by_cases hke:k=oU
 · rw [if_pos hke] at h
   exact st 3 1 (by decide) (by decide) hke rfl h
 rw [if_neg hke] at h
 clear hke
 by_cases hke:k=mD
 · rw [if_pos hke] at h
   exact st 4 1 (by decide) (by decide) hke rfl h
 rw [if_neg hke] at h
 clear hke
 by_cases hke:k=sZ
 · rw [if_pos hke] at h
   exact st 2 2 (by decide) (by decide) hke rfl h
 rw [if_neg hke] at h
 clear hke
 by_cases hke:k=jX
 · rw [if_pos hke] at h
   exact st 5 2 (by decide) (by decide) hke rfl h
 rw [if_neg hke] at h
 clear hke
 by_cases hke:k=pn
 · rw [if_pos hke] at h
   exact st 6 2 (by decide) (by decide) hke rfl h
 rw [if_neg hke] at h
 clear hke
 by_cases hke:k=iz
 · rw [if_pos hke] at h
   unfold iu at h
   split at h
   · rename_i s hs
     obtain ⟨⟨hd,hn,he,hr⟩,rfl⟩:=cJ h
     have hb:=oO hr
     have hsp:=pD hs
     have hln:=hwo 1 hn
     generalize c.states.dropLast=sl at *
     have pst:=p.states; have pdp:=p.depths; have ptr:=p.trans
     rw [hsp] at pst pdp ptr
     have hso:eV s=true:=al.1 pst s (by simp)
     have hso':=hso
     simp only [eV,ab,decide_eq_true_eq] at hso'
     obtain ⟨q1,q2,q3,q4,q5,q6,q7⟩:=hso'
     have hslo:sl.all eV=true:=by rw [aQ,ab] at pst; exact pst.1
     refine ⟨⟨p.events,p.vars,l8 hslo ?_,(nM sl 0 s pdp).2 _ rfl,?_,p.sorted⟩,rfl,?_⟩
     · simp only [eV,ab,decide_eq_true_eq,jw,hb,Bool.or_true]
       exact ⟨q1,q2,q3,q4,q5,trivial,q7⟩
     · simp only [ag,ah,aj] at ptr ⊢; exact ptr
     · have hL:=sR (c:=c) (c':={ c with states:=sl++[{ s with entry:=(aL (an w 0)).1 }] }) hsp rfl rfl rfl fun _ _=>rfl
       rw [jf,jf] at hL
       simp only [tN hb,he] at hL
       have e0:((dV s.depth.toNat iz []).map iA).sum=0:=rfl
       rw [e0] at hL
       have hsh:=nB hr
       have h1:=iG (l:=l) (ws:=[iz,gz (aL (an w 0)).1]) (by
        rw [hln,oS hn,hke]; exact .cons (aw _) (.cons hsh .nil))
       rw [show bE l=s.depth.toNat+1 by omega] at h1
       have hh:iE { s with entry:=(aL (an w 0)).1 }=iE s:=rfl
       rw [hh] at hL
       omega
   · cases h
 rw [if_neg hke] at h
 clear hke
 by_cases hke:k=iW
 · rw [if_pos hke] at h
   unfold ju at h
   split at h
   · rename_i s hs
     obtain ⟨⟨hd,hn,he,hr⟩,rfl⟩:=cJ h
     have hb:=oO hr
     have hsp:=pD hs
     have hln:=hwo 1 hn
     generalize c.states.dropLast=sl at *
     have pst:=p.states; have pdp:=p.depths; have ptr:=p.trans
     rw [hsp] at pst pdp ptr
     have hso:eV s=true:=al.1 pst s (by simp)
     have hso':=hso
     simp only [eV,ab,decide_eq_true_eq] at hso'
     obtain ⟨q1,q2,q3,q4,q5,q6,q7⟩:=hso'
     have hslo:sl.all eV=true:=by rw [aQ,ab] at pst; exact pst.1
     refine ⟨⟨p.events,p.vars,l8 hslo ?_,(nM sl 0 s pdp).2 _ rfl,?_,p.sorted⟩,rfl,?_⟩
     · simp only [eV,ab,decide_eq_true_eq,jw,hb,Bool.or_true]
       exact ⟨q1,q2,q3,q4,q5,q6,trivial⟩
     · simp only [ag,ah,aj] at ptr ⊢; exact ptr
     · have hL:=sR (c:=c) (c':={ c with states:=sl++[{ s with leave:=(aL (an w 0)).1 }] }) hsp rfl rfl rfl fun _ _=>rfl
       rw [jf,jf] at hL
       simp only [tN hb,he] at hL
       have e0:((dV s.depth.toNat iW []).map iA).sum=0:=rfl
       rw [e0] at hL
       have hsh:=nB hr
       have h1:=iG (l:=l) (ws:=[iW,gz (aL (an w 0)).1]) (by
        rw [hln,oS hn,hke]; exact .cons (aw _) (.cons hsh .nil))
       rw [show bE l=s.depth.toNat+1 by omega] at h1
       have hh:iE { s with leave:=(aL (an w 0)).1 }=iE s:=rfl
       rw [hh] at hL
       omega
   · cases h
 rw [if_neg hke] at h
 clear hke
 by_cases hke:k=wOn
 · rw [if_pos hke] at h
   unfold onC at h
   obtain ⟨⟨hown,hn,h1,h2,h3,h4⟩,rfl⟩:=cJ h
   unfold dG at hown
   split at hown
   · rename_i s hs
     rw [beq_iff_eq] at hown
     have hsp:=pD hs
     have hln:=hwo 4 hn
     generalize hsl:c.states.dropLast=sl at *
     have hcl:c.states.length=sl.length+1:=by rw [hsp]; simp
     generalize ht:(⟨(c.states.length:Int) - 1,if an w 0=dash then [] else an w 0,if an w 1=dash then [] else (aR (an w 1)).1,if an w 2=dash then [] else an w 2,if an w 3=dash then [] else (aL (an w 3)).1⟩:Tran)=t
     have hsrc:t.src=(sl.length:Int):=by rw [← ht]; show (c.states.length:Int) - 1=_; omega
     have f1:(t.event=[]∨cz t.event=true)∧(orS t.event).length≤(an w 0).length:=by
      rw [← ht]
      show ((if an w 0=dash then [] else an w 0)=[]∨cz (if an w 0=dash then [] else an w 0)=true)∧(orS (if an w 0=dash then [] else an w 0)).length≤_
      by_cases hh:an w 0=dash
      · rw [if_pos hh]; exact ⟨.inl rfl,by rw [hh]; exact aw _⟩
      · rw [if_neg hh]
        have h5:=h1.resolve_left hh
        exact ⟨.inr h5,by unfold orS; rw [if_neg (A1 h5)]; exact aw _⟩
     have f2:(t.guard=[]∨cS t.guard=true)∧(orS (bL t.guard)).length≤(an w 1).length:=by
      rw [← ht]
      show ((if an w 1=dash then [] else (aR (an w 1)).1)=[]∨cS (if an w 1=dash then [] else (aR (an w 1)).1)=true)∧(orS (bL (if an w 1=dash then [] else (aR (an w 1)).1))).length≤_
      by_cases hh:an w 1=dash
      · rw [if_pos hh]; exact ⟨.inl rfl,by rw [hh]; exact aw _⟩
      · rw [if_neg hh]
        obtain ⟨h5,h6⟩:=B0 (h2.resolve_left hh)
        refine ⟨.inr h5,?_⟩
        have e:bL (aR (an w 1)).1=fA (aR (an w 1)).1:=by unfold bL; rw [if_pos h5]
        rw [e]; unfold orS; rw [if_neg (wP h5)]; exact h6
     have f3:(t.dst=[]∨aO t.dst=true)∧(orS t.dst).length≤(an w 2).length:=by
      rw [← ht]
      show ((if an w 2=dash then [] else an w 2)=[]∨aO (if an w 2=dash then [] else an w 2)=true)∧(orS (if an w 2=dash then [] else an w 2)).length≤_
      by_cases hh:an w 2=dash
      · rw [if_pos hh]; exact ⟨.inl rfl,by rw [hh]; exact aw _⟩
      · rw [if_neg hh]
        have h5:=h3.resolve_left hh
        exact ⟨.inr h5,by unfold orS; rw [if_neg (by intro e; rw [e] at h5; exact absurd h5 (by decide))]; exact aw _⟩
     have f4:jw t.acts=true∧(orS (aU t.acts)).length≤(an w 3).length:=by
      rw [← ht]
      show jw (if an w 3=dash then [] else (aL (an w 3)).1)=true∧(orS (aU (if an w 3=dash then [] else (aL (an w 3)).1))).length≤_
      by_cases hh:an w 3=dash
      · rw [if_pos hh]; exact ⟨rfl,by rw [hh]; exact aw _⟩
      · rw [if_neg hh]
        have h5:=h4.resolve_left hh
        have h6:=oO h5
        refine ⟨by unfold jw; rw [h6,Bool.or_true],?_⟩
        have e:aU (aL (an w 3)).1=gz (aL (an w 3)).1:=by unfold aU; rw [if_pos h6]
        have h7:=kO h6
        rw [e]; unfold orS; rw [if_neg (by intro e; rw [e] at h7; exact absurd h7 (by decide))]; exact nB h5
     have hto:gn c.states.length t=true:=by
      simp only [gn,ab,aF,beq_iff_eq,List.isEmpty_iff,decide_eq_true_eq]
      exact ⟨by omega,by omega,f1.1,f2.1,f3.1,f4.1⟩
     clear ht
     refine ⟨⟨p.events,p.vars,p.states,p.depths,l8 p.trans hto,?_⟩,rfl,?_⟩
     · rw [List.pairwise_append]
       refine ⟨p.sorted,List.pairwise_singleton _ _,fun u hu x hx=>?_⟩
       simp only [aV] at hx
       subst hx
       have:=al.1 p.trans u hu
       simp only [gn,ab,decide_eq_true_eq] at this
       omega
     · have hfl:∀ i:Nat,i<sl.length→((c.trans++[t]).filter fun t=>t.src==(i:Int))=c.trans.filter fun t=>t.src==(i:Int):=fun i hi=>by
        rw [List.filter_append]
        have:([t].filter fun t=>t.src==(i:Int))=[]:=by
         rw [eA]; intro x hx; simp only [aV] at hx; subst hx; simp only [beq_iff_eq]; omega
        rw [this,bt]
       have hfe:((c.trans++[t]).filter fun t=>t.src==(sl.length:Int))=(c.trans.filter fun t=>t.src==(sl.length:Int))++[t]:=by
        rw [List.filter_append]
        congr 1
        rw [gi]; intro x hx; simp only [aV] at hx; subst hx; rw [beq_iff_eq]; exact hsrc
       have hL:=sR (c:=c) (c':={ c with trans:=c.trans++[t] }) hsp hsp rfl rfl hfl
       rw [jf,jf] at hL
       simp only [hfe,cn,eJ,ay,cb,eI,List.sum_nil] at hL
       have h5:=iG (l:=l) (ws:=kU t) (by
        rw [hln,ph hn,hke]
        exact .cons (aw _) (.cons f1.2 (.cons f2.2 (.cons f3.2 (.cons f4.2 .nil)))))
       rw [show bE l=s.depth.toNat+1 by
        have:0≤s.depth:=by
         have hso:eV s=true:=al.1 p.states s (by rw [hsp]; simp)
         simp only [eV,ab,decide_eq_true_eq] at hso
         exact hso.2.2.2.1
        omega] at h5
       omega
   · cases hown
 rw [if_neg hke] at h
 cases h
end Go.Proofs.YtpfidgnkokidoaaGreatDoor
