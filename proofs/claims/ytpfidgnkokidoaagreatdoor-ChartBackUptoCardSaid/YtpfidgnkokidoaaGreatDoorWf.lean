/- Plain: a chart's text is read to the chart; what is read is a chart whose text is no longer. Conditions: each theorem's own. Plain: what is read is a chart that may be, its text no longer. Conditions: each theorem's own. -/
import Derived.Test.YtpfidgnkokidoaaGreatDoorWd
namespace Go.Proofs.YtpfidgnkokidoaaGreatDoor
open Go Go.Ev
set_option maxRecDepth 100000
/-! ### lines between line feeds -/
theorem xP:∀ (r:List Str) (x:Str),(10:UInt8) ∉ x→(∀ y∈r,(10:UInt8) ∉ y)→dD [] (x++r.flatMap (10::·))=x::r
 | [],x,hx,_=>by simp [qV x [] hx]
 | y::r,x,hx,hr=>by
   have e:(y::r).flatMap (10::·)=10::(y++r.flatMap (10::·)):=by simp
   rw [e,tC x [] _ hx,xP r y (hr y aA) fun z hz=>hr z (aE _ hz)]; rfl
theorem DA:∀ (r:List Str) (x:Str),(x::r).flatMap (·++[10])=(x++r.flatMap (10::·))++[10]
 | [],x=>by simp
 | y::r,x=>by
   have:=DA r y
   simp only [bD] at this ⊢
   rw [this]; simp
theorem CB (xs:List Str) (h0:xs≠[]) (h:∀ y∈xs,(10:UInt8) ∉ y):dH (xs.flatMap (·++[10]))=xs:=by
 cases xs with
 | nil=>exact absurd rfl h0
 | cons x r =>
   rw [DA]
   have he:vg ((x++r.flatMap (10::·))++[10])=true:=by simp [vg]
   rw [dH,jS,if_pos he,List.dropLast_concat]
   exact xP r x (h x aA) fun y hy=>h y (aE _ hy)
variable (c:Chart) (n:Nat) {w:Str}
theorem Dp (h:w.all fg=true):(10:UInt8) ∉ w:=fun hm=>absurd (al.1 h _ hm) (by decide)
theorem pB (h:bK w=true):w.all fg=true:=by simp only [bK,ab] at h; exact h.2
theorem CZ:∀ r:List Str,r.all bK=true→(10:UInt8) ∉ glue r
 | [],_=>by simp [glue]
 | w::r,h=>by
   simp only [aF,ab] at h
   have e:glue (w::r)=32::(w++glue r):=by simp [glue]
   rw [e]
   simp only [aO,bb,not_or]
   exact ⟨by decide,Dp (pB h.1),CZ r h.2⟩
theorem NP {d:Nat} {ws:List Str} (h:ws.all bK=true):(10:UInt8) ∉ gz (d,ws):=by
 show (10:UInt8) ∉ dY d++cr ws
 rw [bb,not_or]
 refine ⟨fun hm=>?_,?_⟩
 · rw [dY,List.mem_replicate] at hm; exact absurd hm.2 (by decide)
 · cases ws with
   | nil=>simp [cr]
   | cons w r =>
     simp only [aF,ab] at h
     rw [cr,bb,not_or]
     exact ⟨Dp (pB h.1),CZ r h.2⟩
theorem Gn (ls:List (Nat×List Str)):cO ls=(ls.map gz).flatMap (·++[10]):=by
 unfold cO; rw [List.flatMap_map]
/-! ### the states, one by one -/
def rj:List Tran:=(List.range n).flatMap fun (j:Nat)=>c.trans.filter fun t=>t.src==(j:Int)
def iP:Chart:=⟨c.name,c.events,c.vars,c.states.take n,rj c n⟩
theorem tT:∀ (l:List Ev.Stat) (m:Int),dw m l=true→∀ n,(h:n<l.length)→l[n].depth≤match (l.take n).getLast? with | some s=>s.depth+1 | none=>m
 | s::r,m,h,0,_=>by
   simp only [dw,ab,decide_eq_true_eq] at h
   exact h.1
 | s::r,m,h,n+1,hn=>by
   simp only [dw,ab] at h
   have ih:=tT r (s.depth+1) h.2 n (by simpa using hn)
   simp only [List.getElem_cons_succ,List.take_succ_cons]
   cases hr:r.take n with
   | nil=>rw [hr] at ih; simpa using ih
   | cons x q=>rw [hr] at ih; rw [List.getLast?_cons_cons]; exact ih
theorem Mc (w:WfC c) (n:Nat) (hn:n<c.states.length):Rd1 (iP c n) (gL c n (ETy.get .stat c.states n)) (iP c (n+1)):=by
 have hg:ETy.get .stat c.states n=c.states[n]:=ETy.get_eq (t:=.stat) (List.getElem?_eq_getElem hn)
 rw [hg]
 have hs:fj c.states[n]=true:=al.1 w.states _ (eB hn)
 have hr:c.states[n].depth≤jb (iP c n):=tT c.states 0 w.depths n hn
 have htk:c.states.take (n+1)=c.states.take n++[c.states[n]]:=eR hn
 have hup:rj c (n+1)=rj c n++c.trans.filter fun t=>t.src==(n:Int):=by
  unfold rj; rw [fA,ch]; simp
 have hp:iP c (n+1)=⟨c.name,c.events,c.vars,c.states.take n++[c.states[n]],rj c n++c.trans.filter fun t=>t.src==(n:Int)⟩:=by unfold iP; rw [htk,hup]
 have hln:(c.states.take n).length=n:=by rw [bw]; omega
 rw [hp]
 generalize c.states[n]=s at *
 have hs':=hs
 simp only [fj,ab,decide_eq_true_eq] at hs'
 obtain ⟨_,_,_,hd,_,hen,hle⟩:=hs'
 have h1:=NC (iP c n) s hs hr
 have h2:=KV { iP c n with states:=c.states.take n++[{ s with entry:=[],leave:=[] }] } (c.states.take n) { s with entry:=[],leave:=[] } rfl hd s.entry hen rfl
 have h3:=La { iP c n with states:=c.states.take n++[{ s with leave:=[] }] } (c.states.take n) { s with leave:=[] } rfl hd s.leave hle rfl
 have h4:=H9 { iP c n with states:=c.states.take n++[s] } (c.states.take n) s rfl hd (c.trans.filter fun t=>t.src==(n:Int)) (fun t ht=>by
  rw [aQ,beq_iff_eq] at ht
  refine ⟨?_,by rw [hln]; exact ht.2⟩
  have h5:=al.1 w.trans _ ht.1
  rw [hln]
  simp only [gG,ab,decide_eq_true_eq] at h5 ⊢
  exact ⟨h5.1,by omega,h5.2.2⟩) (rj c n)
 exact h1.cons (h2.app (h3.app h4))
theorem A6 (c:Chart) (w:WfC c):∀ n,n≤c.states.length→Rd1 (iP c 0) (dC c n) (iP c n)
 | 0,_=>Rd1.nil _
 | n+1,h=>by
   have e:dC c (n+1)=dC c n++gL c n (ETy.get .stat c.states n):=by
    unfold dC; rw [fA,ch]; simp
   rw [e]
   exact (A6 c w n (by omega)).app (Mc c w n (by omega))
theorem rA:∀ (l:List Tran) (n:Int),l.Pairwise (fun t u=>t.src≤u.src)→(∀ t∈l,t.src≤n)→(l.filter fun t=>decide (t.src<n))++(l.filter fun t=>t.src==n)=l
 | [],_,_,_=>rfl
 | t :: r,n,hp,hn=>by
   rw [List.pairwise_cons] at hp
   by_cases ht:t.src<n
   · have h2:(t.src==n)=false:=by rw [beq_eq_false_iff_ne]; omega
     rw [List.filter_cons_of_pos (by simpa using ht),List.filter_cons_of_neg (by rw [h2]; simp),bE,rA r n hp.2 fun u hu=>hn u (aE _ hu)]
   · have h2:t.src=n:=by have:=hn t aA; omega
     have h3:∀ u∈t::r,u.src=n:=fun u hu=>by
      rcases aO.1 hu with rfl | hu'
      · exact h2
      · have:=hp.1 u hu'; have:=hn u hu; omega
     have e1:((t::r).filter fun t=>decide (t.src<n))=[]:=by
      rw [eF]; intro u hu; rw [h3 u hu]; simp
     have e2:((t::r).filter fun t=>t.src==n)=t::r:=by
      rw [gn]; intro u hu; rw [h3 u hu]; simp
     rw [e1,e2]; rfl
theorem vl {α β:Type} {l:List α} {f g:α→List β} (h:∀ x∈l,f x=g x):l.flatMap f=l.flatMap g:=by
 induction l with
 | nil=>rfl
 | cons x r ih=>rw [bD,bD,h x aA,ih fun y hy=>h y (aE _ hy)]
theorem nO:∀ (n:Nat) (l:List Tran),l.Pairwise (fun t u=>t.src≤u.src)→(∀ t∈l,0≤t.src∧t.src<n)→((List.range n).flatMap fun (j:Nat)=>l.filter fun t=>t.src==(j:Int))=l
 | 0,l,_,h=>by
   cases l with
   | nil=>rfl
   | cons t r=>have:=h t aA; omega
 | n + 1,l,hp,h=>by
   have h1:=rA l n hp fun t ht=>by have:=(h t ht).2; omega
   have ih:=nO n (l.filter fun t=>decide (t.src<n)) (hp.sublist List.filter_sublist) fun t ht=>by
    rw [aQ,decide_eq_true_eq] at ht
    exact ⟨(h t ht.1).1,ht.2⟩
   rw [fA,ch]
   conv=>rhs; rw [← h1,← ih]
   congr 1
   · refine vl ?_
     intro j hj
     rw [eu] at hj
     rw [List.filter_filter]
     refine List.filter_congr fun t _=>?_
     cases hb:t.src==(j:Int)
     · rfl
     · rw [beq_iff_eq] at hb; simp; omega
   · simp
theorem Gl (w:WfC c):iP c c.states.length=c:=by
 unfold iP rj
 rw [List.take_length,nO _ _ w.sorted]
 intro t ht
 have:=al.1 w.trans _ ht
 simp only [gG,ab,decide_eq_true_eq] at this
 exact ⟨this.1,by omega⟩
theorem EK {v:Var} (h:ja v=true):(hG v).all bK=true∧hG v≠[]:=by
 have hn:aP v.name=true:=by simp only [ja,ab] at h; exact h.1
 unfold hG
 split
 · refine ⟨?_,by simp⟩
   have:bK (if v.init.a=1 then fp else fY)=true:=by split <;> decide
   simp only [aF,dc hn,this]; decide
 · split
   · refine ⟨?_,by simp⟩
     simp only [aF,dc hn,lV,sM]; decide
   · refine ⟨?_,by simp⟩
     simp only [aF,dc hn,lV]; decide
theorem Cx {c:Chart} (w:WfC c) {i:Nat} {s :  Ev.Stat} (hs:fj s=true):∀ l∈gL c i s,l.2.all bK=true:=by
 have hs':=hs
 simp only [fj,ab,decide_eq_true_eq] at hs'
 obtain ⟨_,_,hn,_,hi,hen,hle⟩:=hs'
 have hblk:∀ (d:Nat) (k:Str) (b:List Deed),bK k=true→jz b=true→∀ l∈dX d k b,l.2.all bK=true:=by
  intro d k b hk hb l hl
  unfold dX at hl
  split at hl
  · cases hl
  · rename_i hne
    simp only [aW] at hl
    subst hl
    simp only [aF,hk,(iW ((nC hb).resolve_left hne)).2.2]; rfl
 intro l hl
 rcases aO.1 hl with rfl | hl
 · unfold iM
   have:(if s.initial=[] then [] else [s.initial]:List Str).all bK=true:=by
    split
    · rfl
    · rename_i hne
      cases h2:qt s.kind
      · rw [h2,cond_false,beq_iff_eq] at hi; exact absurd hi hne
      · rw [h2,cond_true] at hi; simp only [aF,dc hi]; rfl
   simp only [aF,nK,dc hn,this]; rfl
 · rcases bb.1 hl with hl | hl
   · exact hblk _ _ _ (by decide) hen l hl
   · rcases bb.1 hl with hl | hl
     · exact hblk _ _ _ (by decide) hle l hl
     · obtain ⟨t,ht,rfl⟩:=ba.1 hl
       have h5:=al.1 w.trans _ (aQ.1 ht).1
       simp only [gG,ab,aH,beq_iff_eq,List.isEmpty_iff,decide_eq_true_eq] at h5
       obtain ⟨_,_,he,hg,ht,ha⟩:=h5
       have v1:bK (orS t.event)=true:=jv fun hn=>sI (he.resolve_left hn)
       have v2:bK (orS (bN t.guard))=true:=jv fun hn=>by
        unfold bN at hn ⊢
        split
        · rename_i hr; exact ui hr
        · rename_i hr; rw [if_neg hr] at hn; exact absurd rfl hn
       have v3:bK (orS t.dst)=true:=jv fun hn=>dc (ht.resolve_left hn)
       have v4:bK (orS (aV t.acts))=true:=jv fun hn=>by
        unfold aV at hn ⊢
        split
        · rename_i hr; exact kZ hr
        · rename_i hr; rw [if_neg hr] at hn; exact absurd rfl hn
       show ([wOn,orS t.event,orS (bN t.guard),orS t.dst,orS (aV t.acts)]:List Str).all bK=true
       simp only [aF,v1,v2,v3,v4]; decide
theorem BX {c:Chart} (w:WfC c):∀ l∈iT c,l.2.all bK=true:=by
 intro l hl
 rcases aO.1 hl with rfl | hl
 · simp only [aF,dc w.name]; decide
 · rcases bb.1 hl with hl | hl
   · obtain ⟨e,he,rfl⟩:=ba.1 hl
     simp only [aF,dc (al.1 w.events _ he)]; decide
   · rcases bb.1 hl with hl | hl
     · obtain ⟨v,hv,rfl⟩:=ba.1 hl
       exact (EK (al.1 w.vars _ hv)).1
     · unfold dC at hl
       rw [aT] at hl
       obtain ⟨i,hi,hl⟩:=hl
       rw [eu] at hi
       refine Cx w ?_ l hl
       rw [ETy.get_eq (t:=.stat) (List.getElem?_eq_getElem hi)]
       exact al.1 w.states _ (eB hi)
theorem Hz {n:Str} (h:aP n=true):dR c 0 (gz (0,[iy,n]))=some { c with name:=n }:=by
 have hv:([iy,n]:List Str).all bK=true:=by simp only [aF,dc h]; decide
 obtain ⟨h1,h2⟩:=uJ 0 (by simp) hv
 have e1:bF (gz (0,[iy,n]))=0:=h1
 have e2:bq (gz (0,[iy,n]))=[iy,n]:=h2
 have hok:gW (gz (0,[iy,n]))=true:=by unfold gW; rw [e2]; exact hv
 rw [dR,if_pos hok,if_pos rfl,rJ,e1,e2,if_pos ⟨rfl,rfl,rfl,h⟩]; rfl
theorem DV {c:Chart} (w:WfC c):dO dk 0 (dH (dx c))=(c,none):=by
 have e:dH (dx c)=(iT c).map gz:=by
  rw [dx,Gn]
  refine CB _ (by simp [iT]) fun y hy=>?_
  obtain ⟨l,hl,rfl⟩:=ba.1 hy
  exact NP (BX w l hl)
 rw [e,iT,aw,dO,Hz dk w.name]
 have h1:=xX { dk with name:=c.name } rfl c.events w.events
 have h2:=Dy { dk with name:=c.name,events:=dk.events++c.events } rfl c.vars w.vars
 have h3:=A6 c w c.states.length (av _)
 rw [Gl c w] at h3
 have e0:iP c 0={ dk with name:=c.name,events:=dk.events++c.events,vars:=dk.vars++c.vars }:=by simp [iP,rj,dk]
 rw [e0] at h3
 exact (h1.app (h2.app h3)) 1 (by decide)
theorem D5 {c:Chart} (w:WfC c) (hl:(dx c).length≤6000):br (dx c)=(c,0,0):=by
 rw [br,if_neg (by omega),DV w]
end Go.Proofs.YtpfidgnkokidoaaGreatDoor
namespace Go.Proofs.YtpfidgnkokidoaaGreatDoor
open Go Go.Ev
set_option maxRecDepth 100000
/-! ### blocks' and guards' texts are no longer than what was read -/
theorem FS {p:Str} {d:Deed} (h:ft p=some d):(eI d).length≤p.length:=by
 have hok:=As h
 unfold ft at h
 split at h
 · rename_i h1
   obtain ⟨_,rfl⟩:=cJ h
   obtain ⟨r,rfl⟩:=kC h1
   rw [(o6 b7 r).2]; exact av _
 · split at h
   · rename_i h1
     obtain ⟨_,rfl⟩:=cJ h
     obtain ⟨r,rfl⟩:=kC h1
     rw [(o6 c7 r).2]; exact av _
   · obtain ⟨⟨h1,h2,h3⟩,rfl⟩:=cJ h
     obtain ⟨t,ht,e,_,hle⟩:=tY h2
     have e1:(aS (b8 p)).1=t.flat:=by rw [e]
     have hs:=(GW p h1).1
     have hl:=congrArg List.length hs
     simp only [ag,ah] at hl
     show (dr p++[61]++fD (aS (b8 p)).1).length≤p.length
     have h5:(t.body.length:Int)≤((b8 p).length:Int):=hle
     rw [e1,jt ht]
     simp only [ag,ah,aj]; omega
theorem yh:∀ (ps:List Str) (l:List Deed),readAll ps=some l→All2 (fun (a b:Str)=>a.length≤b.length) (l.map eI) ps
 | [],l,h=>by simp only [readAll,aa] at h; subst h; exact .nil
 | p :: r,l,h=>by
   simp only [readAll] at h
   split at h
   · rename_i d m h1 h2
     simp only [aa] at h; subst h
     exact .cons (FS h1) (yh r m h2)
   · cases h
theorem uD:∀ {a b:List Str},All2 (fun (x y:Str)=>x.length≤y.length) a b→(Lib.joinTail [59] a).length≤(Lib.joinTail [59] b).length
 | _,_,.nil=>av _
 | x::a,y::b,.cons h t=>by
   have ih:=uD t
   have e:∀ (x:Str) (r:List Str),Lib.joinTail [59] (x::r)=59::(x++Lib.joinTail [59] r):=fun x r=>by simp [Lib.joinTail]
   rw [e,e]; simp only [ah,ag]; omega
theorem pA:∀ (s cur:Str),Lib.join (bf cur s) [59]=cur++s
 | [],cur=>by simp [bf,Lib.join_cons,Lib.joinTail]
 | c :: r,cur=>by
   rw [bf]
   cases h:c==59
   · rw [cond_false,pA r]; simp
   · rw [cond_true,Lib.join_cons]
     have h2:Lib.joinTail [59] (bf [] r)=59::Lib.join (bf [] r) [59]:=by
      have hne:bf [] r≠[]:=by
       intro e; have:=jI r []; rw [e] at this; simp at this
      cases hp:bf [] r with
      | nil=>exact absurd hp hne
      | cons x q=>rw [Lib.join_cons]; simp [Lib.joinTail]
     rw [h2,pA r,eq_of_beq h]; rfl
theorem nI {s:Str} (h:aZ s):(gD (aM s).1).length≤s.length:=by
 have h0:(aM s).2=0:=h
 unfold aM at h0 ⊢
 split at h0
 · exact absurd h0 (by decide)
 · rename_i h1
   rw [if_neg h1]
   split at h0
   · exact absurd h0 (by decide)
   · rename_i h2
     rw [if_neg h2]
     split at h0
     · rename_i l hl
       simp only [hl]
       have ha:=yh _ _ hl
       have hg:=pA s []
       show (Lib.join (l.map eI) [59]).length≤_
       generalize bf [] s=ps at *
       conv=>rhs; rw [show s=Lib.join ps [59] by rw [hg]; rfl]
       generalize l.map eI=xs at ha ⊢
       cases ha with
       | nil=>exact av _
       | cons h3 h4 =>
         rw [Lib.join_cons,Lib.join_cons,ag,ag]
         have:=uD h4; omega
     · exact absurd h0 (by decide)
theorem CC {s:Str} (h:cz s):cS (aS s).1=true∧(fD (aS s).1).length≤s.length:=by
 obtain ⟨t,ht,e,hl,hle⟩:=tY h
 have e1:(aS s).1=t.flat:=by rw [e]
 rw [e1]
 refine ⟨JI ht hl,?_⟩
 rw [jt ht]
 have:(t.body.length:Int)≤(s.length:Int):=hle
 omega
/-! ### lengths of lines -/
def iC (l:Nat×List Str):Nat:=(gz l).length+1
theorem uw:∀ {a b:List Str},All2 (fun (x y:Str)=>x.length≤y.length) a b→(glue a).length≤(glue b).length
 | _,_,.nil=>av _
 | x::a,y::b,.cons h t=>by
   have ih:=uw t
   have e:∀ (w:Str) (r:List Str),glue (w::r)=32::(w++glue r):=fun w r=>by simp [glue]
   rw [e,e]; simp only [ah,ag]; omega
theorem Cc {a b:List Str} (h:All2 (fun (x y:Str)=>x.length≤y.length) a b):(cr a).length≤(cr b).length:=by
 cases h with
 | nil=>exact av _
 | cons h3 h4=>rw [cr,cr,ag,ag]; have:=uw h4; omega
variable {l:Str} {w:List Str} (c:Chart) {n:Nat}
theorem iL {ws:List Str} (h:All2 (fun (x y:Str)=>x.length≤y.length) ws (bq l)):iC (bF l,ws)≤l.length+1:=by
 have e:=congrArg List.length (IX l)
 rw [ag,bw] at e
 have hl:=tu l
 show (dY (bF l)++cr ws).length+1≤_
 rw [ag,dY,List.length_replicate]
 have h2:=Cc h
 omega
theorem kH:∀ ws:List Str,All2 (fun (x y:Str)=>x.length≤y.length) ws ws
 | []=>.nil
 | _::r=>.cons (av _) (kH r)
theorem H4 (ls:List (Nat×List Str)):(cO ls).length=(ls.map iC).sum:=by
 induction ls with
 | nil=>rfl
 | cons l r ih =>
   have e:cO (l::r)=gz l++[10]++cO r:=by simp [cO]
   rw [e,aw,eL,← ih]
   simp only [ag,ah,aj,iC]
def LL:List (Nat×List Str):=c.events.map (fun e=>(0,[gx,e]))++(c.vars.map (fun v=>(0,hG v))++dC c c.states.length)
def nW:Nat:=((LL c).map iC).sum
theorem Gz:(dx c).length=iC (0,[iy,c.name])+nW c:=by
 rw [dx,H4]; rfl
theorem j9:nW c=((c.events.map fun e=>iC (0,[gx,e])).sum)+((c.vars.map fun v=>iC (0,hG v)).sum)+((dC c c.states.length).map iC).sum:=by
 unfold nW LL
 simp only [cm,eZ,eN,Function.comp_def]; omega
/-! ### a line's words -/
theorem I6 {k:Str} {n:Nat} (hk:an (bq l) 0=k) (hn:((bq l).drop 1).length=n) (h0:bq l≠[]):bq l=k::(bq l).drop 1∧(bq l).length=n+1:=by
 cases h:bq l with
 | nil=>exact absurd h h0
 | cons w r =>
   rw [h] at hk hn
   have:w=k:=hk
   subst this
   exact ⟨rfl,by simpa using hn⟩
theorem pO (h:w.length=1):w=[an w 0]:=by
 match w,h with
 | [a],_=>rfl
theorem qE (h:w.length=2):w=[an w 0,an w 1]:=by
 match w,h with
 | [a,b],_=>rfl
theorem pc (h:w.length=4):w=[an w 0,an w 1,an w 2,an w 3]:=by
 match w,h with
 | [a,b,c,d],_=>rfl
theorem gK {c:Chart} {d:Int} {w:List Str} {n:Nat} (h:eK c d w (n:Int)=true):d=0∧c.states=[]∧w.length=n∧aP (an w 0)=true:=by
 simp only [eK,ab,beq_iff_eq] at h
 obtain ⟨⟨⟨h1,h2⟩,h3⟩,h4⟩:=h
 exact ⟨h1,b5.1 (by omega),by omega,h4⟩
/-! ### charts under way -/
structure Pre (c:Chart):Prop where
 events:c.events.all aP=true
 vars:c.vars.all ja=true
 states:c.states.all fj=true
 depths:dw 0 c.states=true
 trans:c.trans.all (gG c.states.length)=true
 sorted:c.trans.Pairwise fun t u=>t.src≤u.src
theorem Pre.zero:Pre dk:=⟨rfl,rfl,rfl,rfl,rfl,.nil⟩
theorem uh:∀ (l:List Ev.Stat) (m:Int) (s :  Ev.Stat),dw m l=true→(s.depth≤match l.getLast? with | some x=>x.depth+1 | none=>m)→dw m (l++[s])=true
 | [],m,s,_,h=>by simp only [bP,dw,c8,decide_eq_true_eq]; exact h
 | [x],m,s,h,hs=>by
   simp only [dw,c8,decide_eq_true_eq,bE,bP,ab] at h ⊢
   exact ⟨h,hs⟩
 | x::y::r,m,s,h,hs=>by
   simp only [bE] at *
   rw [dw,ab] at h ⊢
   rw [List.getLast?_cons_cons] at hs
   exact ⟨h.1,uh (y::r) (x.depth+1) s h.2 hs⟩
theorem nX:∀ (l:List Ev.Stat) (m:Int) (s :  Ev.Stat),dw m (l++[s])=true→dw m l=true∧∀ s' :  Ev.Stat,s'.depth=s.depth→dw m (l++[s'])=true
 | [],m,s,h=>by
   refine ⟨rfl,fun s' e=>?_⟩
   simp only [bP,dw,c8,decide_eq_true_eq] at h ⊢
   rw [e]; exact h
 | x::r,m,s,h=>by
   rw [bE,dw,ab] at h
   obtain ⟨h1,h2⟩:=nX r (x.depth+1) s h.2
   refine ⟨by rw [dw,ab]; exact ⟨h.1,h1⟩,fun s' e=>?_⟩
   rw [bE,dw,ab]; exact ⟨h.1,h2 s' e⟩
theorem GF {m:Nat} (h:n≤m) {t:Tran} (ht:gG n t=true):gG m t=true:=by
 simp only [gG,ab,decide_eq_true_eq] at ht ⊢
 exact ⟨ht.1,by omega,ht.2.2⟩
theorem mg {α:Type} {p:α→Bool} {l:List α} {x:α} (h:l.all p=true) (hx:p x=true):(l++[x]).all p=true:=by
 rw [aR,h]; simp [hx]
theorem oR {l:List Ev.Stat} {s :  Ev.Stat} (h:l.getLast?=some s):l=l.dropLast++[s]:=by
 obtain ⟨ys,rfl⟩:=List.getLast?_eq_some_iff.1 h
 simp
theorem CU {c c':Chart} {i:Nat} {s :  Ev.Stat} (h:(c.trans.filter fun t=>t.src==(i:Int))=c'.trans.filter fun t=>t.src==(i:Int)):gL c i s=gL c' i s:=by
 unfold gL; rw [h]
theorem kc {c c':Chart} {n:Nat} (h1:∀ i,i<n→ETy.get .stat c.states i=ETy.get .stat c'.states i) (h2:∀ i:Nat,i<n→(c.trans.filter fun t=>t.src==(i:Int))=c'.trans.filter fun t=>t.src==(i:Int)):dC c n=dC c' n:=by
 unfold dC
 refine vl fun i hi=>?_
 rw [eu] at hi
 rw [h1 i hi]; exact CU (h2 i hi)
theorem iV (n:Nat):dC c (n+1)=dC c n++gL c n (ETy.get .stat c.states n):=by
 unfold dC; rw [fA,ch]; simp
theorem wo {l:List Ev.Stat} {s :  Ev.Stat}:ETy.get .stat (l++[s]) l.length=s:=ETy.get_eq (t:=.stat) (by simp)
theorem tK {l r:List Ev.Stat} {i:Nat} (h:i<l.length):ETy.get .stat (l++r) i=ETy.get .stat l i:=by
 unfold ETy.get
 simp only [List.getD_eq_getElem?_getD,List.getElem?_append_left h]
theorem tL {c c':Chart} {st:List Ev.Stat} {s s':Ev.Stat} (hc:c.states=st++[s]) (hc':c'.states=st++[s']) (he:c'.events=c.events) (hv:c'.vars=c.vars) (ht:∀ i:Nat,i<st.length→(c'.trans.filter fun t=>t.src==(i:Int))=c.trans.filter fun t=>t.src==(i:Int)) :
 nW c'+((gL c st.length s).map iC).sum=nW c+((gL c' st.length s').map iC).sum:=by
 rw [j9,j9,he,hv]
 have e:dC c' st.length=dC c st.length:=kc (fun i hi=>by rw [hc,hc',tK hi,tK hi]) ht
 have l1:c.states.length=st.length+1:=by rw [hc]; simp
 have l2:c'.states.length=st.length+1:=by rw [hc']; simp
 rw [l1,l2,iV,iV,e]
 have g1:ETy.get .stat c.states st.length=s:=by rw [hc]; exact wo
 have g2:ETy.get .stat c'.states st.length=s':=by rw [hc']; exact wo
 rw [g1,g2]
 simp only [cm,eN]; omega
theorem jm (i:Nat) (s :  Ev.Stat):((gL c i s).map iC).sum=iC (s.depth.toNat,iM s)+((dX s.depth.toNat iz s.entry).map iC).sum+((dX s.depth.toNat jc s.leave).map iC).sum+(((c.trans.filter fun t=>t.src==(i:Int)).map fun t=>iC (s.depth.toNat+1,la t)).sum):=by
 unfold gL
 simp only [aw,eL,cm,eN,eZ,Function.comp_def]; omega
theorem Kx {c:Chart} (p:Pre c) {i:Nat} (h:c.states.length≤i):(c.trans.filter fun t=>t.src==(i:Int))=[]:=by
 rw [eF]
 intro t ht
 have:=al.1 p.trans _ ht
 simp only [gG,ab,decide_eq_true_eq] at this
 simp only [beq_iff_eq]; omega
theorem uZ {d:Nat} {w:Str} {l:List Deed} (h:dA l=true):((dX d w l).map iC).sum=iC (d+1,[w,gD l]):=by
 unfold dX aV
 rw [if_neg (tG h),if_pos h]; simp
theorem mT {n:Int} (h0 : -1099511627776≤n) (h1:n≤1099511627776):lT n=true:=by
 simp only [lT,ab,decide_eq_true_eq]; exact ⟨h0,h1⟩
def Step (c':Chart) (l:Str):Prop:=Pre c'∧c'.name=c.name∧nW c'≤nW c+(l.length+1)
theorem tB {c:Chart} {l:Str} {v:Var} (p:Pre c) (hv:ja v=true) (hl:bq l=hG v) (hd:bF l=0):Step c { c with vars:=c.vars++[v] } l:=by
 refine ⟨⟨p.events,mg p.vars hv,p.states,p.depths,p.trans,p.sorted⟩,rfl,?_⟩
 rw [j9,j9]
 have e:dC { c with vars:=c.vars++[v] } c.states.length=dC c c.states.length:=kc (fun _ _=>rfl) fun _ _=>rfl
 have h1:=iL (l:=l) (ws:=hG v) (by rw [hl]; exact kH _)
 rw [hd] at h1
 simp only [e,cm,aw,bI,eN,eL,List.sum_nil]; omega
theorem Hj {c c':Chart} {l:Str} (p:Pre c) (h:cu c (bF l:Nat) (an (bq l) 0) ((bq l).drop 1)=some c'):Step c c' l:=by
 have hne:=BF l
 generalize hk:an (bq l) 0=k at h
 generalize hw:(bq l).drop 1=w at h
 have hwo:∀ n,w.length=n→bq l=k::w:=fun n hn=>by
  have:=(I6 (n:=n) hk (by rw [hw]; exact hn) hne).1; rw [hw] at this; exact this
 have st:∀ (kind:Int) (n:Nat),1≤kind→kind≤6→k=jd kind→n=(bif qt kind then 2 else 1)→aN kind n c (bF l:Nat) w=some c'→Step c c' l:=by
  intro kind n h1 h6 hkk hn h
  unfold aN at h
  obtain ⟨⟨g1,g2,g3,g4⟩,rfl⟩:=cJ h
  have hln:=hwo n g2
  have hso:fj ⟨an w 0,kind,(bF l:Nat),if n=2 then an w 1 else [],[],[]⟩=true:=by
   simp only [fj,ab,decide_eq_true_eq]
   refine ⟨h1,h6,g3,eG _,?_,rfl,rfl⟩
   cases h2:qt kind
   · rw [h2,cond_false] at hn; subst hn; rfl
   · rw [h2,cond_true] at hn; subst hn; exact g4
  have hhead:iM ⟨an w 0,kind,(bF l:Nat),if n=2 then an w 1 else [],[],[]⟩=k::w:=by
   cases h2:qt kind
   · rw [h2,cond_false] at hn; subst hn
     rw [pO g2,hkk]; rfl
   · rw [h2,cond_true] at hn; subst hn
     have:an w 1≠[]:=by intro e; have g4':aP (an w 1)=true:=g4; rw [e] at g4'; exact absurd g4' (by decide)
     show jd kind::an w 0::(if an w 1=[] then [] else [an w 1])=_
     rw [if_neg this,hkk]
     conv=>rhs; rw [qE g2]
  refine ⟨⟨p.events,p.vars,mg p.states hso,uh _ _ _ p.depths g1,?_,p.sorted⟩,rfl,?_⟩
  · rw [al]
    intro t ht
    refine GF ?_ (al.1 p.trans t ht)
    simp
  · rw [j9,j9]
    have e1:dC { c with states:=c.states++[⟨an w 0,kind,(bF l:Nat),if n=2 then an w 1 else [],[],[]⟩] } c.states.length=dC c c.states.length:=kc (fun i hi=>tK hi) fun _ _=>rfl
    have e2:(c.states++[(⟨an w 0,kind,(bF l:Nat),if n=2 then an w 1 else [],[],[]⟩ :  Ev.Stat)]).length=c.states.length+1:=by simp
    simp only [e2,iV,e1,wo,cm,eN,jm,Kx p (av _),hhead]
    have h3:=iL (l:=l) (ws:=k::w) (by rw [hln]; exact kH _)
    have e3:((bF l:Nat):Int).toNat=bF l:=bj _
    rw [e3]
    have e4:∀ d k,((dX d k []).map iC).sum=0:=fun d k=>rfl
    simp only [e4,bI,List.sum_nil]; omega
 unfold cu at h
 by_cases hke:k=gx
 · rw [if_pos hke] at h
   unfold jH at h
   obtain ⟨g,rfl⟩:=cJ h
   obtain ⟨hd,hs,hn,hnm⟩:=gK (n:=1) g
   have hln:=hwo 1 hn
   refine ⟨⟨mg p.events hnm,p.vars,p.states,p.depths,p.trans,p.sorted⟩,rfl,?_⟩
   rw [j9,j9]
   have e:dC { c with events:=c.events++[an w 0] } c.states.length=dC c c.states.length:=kc (fun _ _=>rfl) fun _ _=>rfl
   have h1:=iL (l:=l) (ws:=[gx,an w 0]) (by rw [hln,pO hn,hke]; exact kH _)
   rw [show bF l=0 by omega] at h1
   simp only [e,cm,aw,bI,eN,eL,List.sum_nil]; omega
 rw [if_neg hke] at h
 clear hke
 by_cases hke:k=nZ
 · rw [if_pos hke] at h
   unfold nG at h
   obtain ⟨⟨g,n1,n2,n3⟩,rfl⟩:=cJ h
   obtain ⟨hd,hs,hn,hnm⟩:=gK (n:=4) g
   have hln:=hwo 4 hn
   obtain ⟨b1,b1',b1''⟩:=mz n1
   obtain ⟨b2,b2',b2''⟩:=mz n2
   obtain ⟨b3,b3',b3''⟩:=mz n3
   refine tB p ?_ ?_ (by omega)
   · simp only [N4,ja,hnm,mT b1' b1'',mT b2' b2'',mT b3' b3'']; rfl
   · rw [hln,hke]
     conv=>lhs; rw [pc hn]
     show _=[nZ,an w 0,Lib.itoa (bg (an w 1)).1,Lib.itoa (bg (an w 2)).1,Lib.itoa (bg (an w 3)).1]
     rw [b1,b2,b3]
 rw [if_neg hke] at h
 clear hke
 by_cases hke:k=jP
 · rw [if_pos hke] at h
   unfold kB at h
   obtain ⟨⟨g,n1⟩,rfl⟩:=cJ h
   obtain ⟨hd,hs,hn,hnm⟩:=gK (n:=2) g
   have hln:=hwo 2 hn
   refine tB p ?_ ?_ (by omega)
   · have hb:((if an w 1=fp then (1:Int) else 0)==0||(if an w 1=fp then (1:Int) else 0)==1)=true:=by split <;> rfl
     simp only [ja,hnm,hb]; rfl
   · rw [hln,hke]
     conv=>lhs; rw [qE hn]
     show _=[jP,an w 0,if (if an w 1=fp then (1:Int) else 0)=1 then fp else fY]
     rcases n1 with n1 | n1
     · rw [n1,if_pos rfl,if_pos rfl]
     · rw [n1,if_neg (by decide)]
 rw [if_neg hke] at h
 clear hke
 by_cases hke:k=jL
 · rw [if_pos hke] at h
   unfold jj at h
   obtain ⟨⟨g,n1,n2,n3⟩,rfl⟩:=cJ h
   obtain ⟨hd,hs,hn,hnm⟩:=gK (n:=4) g
   have hln:=hwo 4 hn
   obtain ⟨b1,b1',b1''⟩:=mz n1
   obtain ⟨b2,b2',b2''⟩:=mz n2
   obtain ⟨b3,b3',b3''⟩:=kA n3
   refine tB p ?_ ?_ (by omega)
   · simp only [ja,hnm,mT b1' b1'',mT b2' b2'',show pIn (ptA (an w 3))=true from b3,show pIn (ptB (an w 3))=true from b3']; rfl
   · rw [hln,hke]
     conv=>lhs; rw [pc hn]
     show _=[jL,an w 0,Lib.itoa (bg (an w 1)).1,Lib.itoa (bg (an w 2)).1,db (ptA (an w 3)) (ptB (an w 3))]
     rw [b1,b2]
     have:db (ptA (an w 3)) (ptB (an w 3))=an w 3:=b3''
     rw [this]
 rw [if_neg hke] at h
 clear hke
 by_cases hke:k=mU
 · rw [if_pos hke] at h
   exact st 1 1 (by decide) (by decide) hke rfl h
 rw [if_neg hke] at h
 clear hke
 by_cases hke:k=oZ
 · rw [if_pos hke] at h
   exact st 3 1 (by decide) (by decide) hke rfl h
 rw [if_neg hke] at h
 clear hke
 by_cases hke:k=my
 · rw [if_pos hke] at h
   exact st 4 1 (by decide) (by decide) hke rfl h
 rw [if_neg hke] at h
 clear hke
 by_cases hke:k=tA
 · rw [if_pos hke] at h
   exact st 2 2 (by decide) (by decide) hke rfl h
 rw [if_neg hke] at h
 clear hke
 by_cases hke:k=jX
 · rw [if_pos hke] at h
   exact st 5 2 (by decide) (by decide) hke rfl h
 rw [if_neg hke] at h
 clear hke
 by_cases hke:k=oV
 · rw [if_pos hke] at h
   exact st 6 2 (by decide) (by decide) hke rfl h
 rw [if_neg hke] at h
 clear hke
 by_cases hke:k=iz
 · rw [if_pos hke] at h
   unfold ix at h
   split at h
   · rename_i s hs
     obtain ⟨⟨hd,hn,he,hr⟩,rfl⟩:=cJ h
     have hb:=oY hr
     have hsp:=oR hs
     have hln:=hwo 1 hn
     generalize c.states.dropLast=sl at *
     have pst:=p.states; have pdp:=p.depths; have ptr:=p.trans
     rw [hsp] at pst pdp ptr
     have hso:fj s=true:=al.1 pst s (by simp)
     have hso':=hso
     simp only [fj,ab,decide_eq_true_eq] at hso'
     obtain ⟨q1,q2,q3,q4,q5,q6,q7⟩:=hso'
     have hslo:sl.all fj=true:=by rw [aR,ab] at pst; exact pst.1
     refine ⟨⟨p.events,p.vars,mg hslo ?_,(nX sl 0 s pdp).2 _ rfl,?_,p.sorted⟩,rfl,?_⟩
     · simp only [fj,ab,decide_eq_true_eq,jz,hb,Bool.or_true]
       exact ⟨q1,q2,q3,q4,q5,trivial,q7⟩
     · simp only [ag,ah,aj] at ptr ⊢; exact ptr
     · have hL:=tL (c:=c) (c':={ c with states:=sl++[{ s with entry:=(aM (an w 0)).1 }] }) hsp rfl rfl rfl fun _ _=>rfl
       rw [jm,jm] at hL
       simp only [uZ hb,he] at hL
       have e0:((dX s.depth.toNat iz []).map iC).sum=0:=rfl
       rw [e0] at hL
       have hsh:=nI hr
       have h1:=iL (l:=l) (ws:=[iz,gD (aM (an w 0)).1]) (by
        rw [hln,pO hn,hke]; exact .cons (av _) (.cons hsh .nil))
       rw [show bF l=s.depth.toNat+1 by omega] at h1
       have hh:iM { s with entry:=(aM (an w 0)).1 }=iM s:=rfl
       rw [hh] at hL
       omega
   · cases h
 rw [if_neg hke] at h
 clear hke
 by_cases hke:k=jc
 · rw [if_pos hke] at h
   unfold jC at h
   split at h
   · rename_i s hs
     obtain ⟨⟨hd,hn,he,hr⟩,rfl⟩:=cJ h
     have hb:=oY hr
     have hsp:=oR hs
     have hln:=hwo 1 hn
     generalize c.states.dropLast=sl at *
     have pst:=p.states; have pdp:=p.depths; have ptr:=p.trans
     rw [hsp] at pst pdp ptr
     have hso:fj s=true:=al.1 pst s (by simp)
     have hso':=hso
     simp only [fj,ab,decide_eq_true_eq] at hso'
     obtain ⟨q1,q2,q3,q4,q5,q6,q7⟩:=hso'
     have hslo:sl.all fj=true:=by rw [aR,ab] at pst; exact pst.1
     refine ⟨⟨p.events,p.vars,mg hslo ?_,(nX sl 0 s pdp).2 _ rfl,?_,p.sorted⟩,rfl,?_⟩
     · simp only [fj,ab,decide_eq_true_eq,jz,hb,Bool.or_true]
       exact ⟨q1,q2,q3,q4,q5,q6,trivial⟩
     · simp only [ag,ah,aj] at ptr ⊢; exact ptr
     · have hL:=tL (c:=c) (c':={ c with states:=sl++[{ s with leave:=(aM (an w 0)).1 }] }) hsp rfl rfl rfl fun _ _=>rfl
       rw [jm,jm] at hL
       simp only [uZ hb,he] at hL
       have e0:((dX s.depth.toNat jc []).map iC).sum=0:=rfl
       rw [e0] at hL
       have hsh:=nI hr
       have h1:=iL (l:=l) (ws:=[jc,gD (aM (an w 0)).1]) (by
        rw [hln,pO hn,hke]; exact .cons (av _) (.cons hsh .nil))
       rw [show bF l=s.depth.toNat+1 by omega] at h1
       have hh:iM { s with leave:=(aM (an w 0)).1 }=iM s:=rfl
       rw [hh] at hL
       omega
   · cases h
 rw [if_neg hke] at h
 clear hke
 by_cases hke:k=wOn
 · rw [if_pos hke] at h
   unfold onC at h
   obtain ⟨⟨hown,hn,h1,h2,h3,h4⟩,rfl⟩:=cJ h
   unfold dJ at hown
   split at hown
   · rename_i s hs
     rw [beq_iff_eq] at hown
     have hsp:=oR hs
     have hln:=hwo 4 hn
     generalize hsl:c.states.dropLast=sl at *
     have hcl:c.states.length=sl.length+1:=by rw [hsp]; simp
     generalize ht:(⟨(c.states.length:Int) - 1,if an w 0=dash then [] else an w 0,if an w 1=dash then [] else (aS (an w 1)).1,if an w 2=dash then [] else an w 2,if an w 3=dash then [] else (aM (an w 3)).1⟩:Tran)=t
     have hsrc:t.src=(sl.length:Int):=by rw [← ht]; show (c.states.length:Int) - 1=_; omega
     have f1:(t.event=[]∨cA t.event=true)∧(orS t.event).length≤(an w 0).length:=by
      rw [← ht]
      show ((if an w 0=dash then [] else an w 0)=[]∨cA (if an w 0=dash then [] else an w 0)=true)∧(orS (if an w 0=dash then [] else an w 0)).length≤_
      by_cases hh:an w 0=dash
      · rw [if_pos hh]; exact ⟨.inl rfl,by rw [hh]; exact av _⟩
      · rw [if_neg hh]
        have h5:=h1.resolve_left hh
        exact ⟨.inr h5,by unfold orS; rw [if_neg (Aj h5)]; exact av _⟩
     have f2:(t.guard=[]∨cS t.guard=true)∧(orS (bN t.guard)).length≤(an w 1).length:=by
      rw [← ht]
      show ((if an w 1=dash then [] else (aS (an w 1)).1)=[]∨cS (if an w 1=dash then [] else (aS (an w 1)).1)=true)∧(orS (bN (if an w 1=dash then [] else (aS (an w 1)).1))).length≤_
      by_cases hh:an w 1=dash
      · rw [if_pos hh]; exact ⟨.inl rfl,by rw [hh]; exact av _⟩
      · rw [if_neg hh]
        obtain ⟨h5,h6⟩:=CC (h2.resolve_left hh)
        refine ⟨.inr h5,?_⟩
        have e:bN (aS (an w 1)).1=fD (aS (an w 1)).1:=by unfold bN; rw [if_pos h5]
        rw [e]; unfold orS; rw [if_neg (wv h5)]; exact h6
     have f3:(t.dst=[]∨aP t.dst=true)∧(orS t.dst).length≤(an w 2).length:=by
      rw [← ht]
      show ((if an w 2=dash then [] else an w 2)=[]∨aP (if an w 2=dash then [] else an w 2)=true)∧(orS (if an w 2=dash then [] else an w 2)).length≤_
      by_cases hh:an w 2=dash
      · rw [if_pos hh]; exact ⟨.inl rfl,by rw [hh]; exact av _⟩
      · rw [if_neg hh]
        have h5:=h3.resolve_left hh
        exact ⟨.inr h5,by unfold orS; rw [if_neg (by intro e; rw [e] at h5; exact absurd h5 (by decide))]; exact av _⟩
     have f4:jz t.acts=true∧(orS (aV t.acts)).length≤(an w 3).length:=by
      rw [← ht]
      show jz (if an w 3=dash then [] else (aM (an w 3)).1)=true∧(orS (aV (if an w 3=dash then [] else (aM (an w 3)).1))).length≤_
      by_cases hh:an w 3=dash
      · rw [if_pos hh]; exact ⟨rfl,by rw [hh]; exact av _⟩
      · rw [if_neg hh]
        have h5:=h4.resolve_left hh
        have h6:=oY h5
        refine ⟨by unfold jz; rw [h6,Bool.or_true],?_⟩
        have e:aV (aM (an w 3)).1=gD (aM (an w 3)).1:=by unfold aV; rw [if_pos h6]
        have h7:=kZ h6
        rw [e]; unfold orS; rw [if_neg (by intro e; rw [e] at h7; exact absurd h7 (by decide))]; exact nI h5
     have hto:gG c.states.length t=true:=by
      simp only [gG,ab,aH,beq_iff_eq,List.isEmpty_iff,decide_eq_true_eq]
      exact ⟨by omega,by omega,f1.1,f2.1,f3.1,f4.1⟩
     clear ht
     refine ⟨⟨p.events,p.vars,p.states,p.depths,mg p.trans hto,?_⟩,rfl,?_⟩
     · rw [List.pairwise_append]
       refine ⟨p.sorted,List.pairwise_singleton _ _,fun u hu x hx=>?_⟩
       simp only [aW] at hx
       subst hx
       have:=al.1 p.trans u hu
       simp only [gG,ab,decide_eq_true_eq] at this
       omega
     · have hfl:∀ i:Nat,i<sl.length→((c.trans++[t]).filter fun t=>t.src==(i:Int))=c.trans.filter fun t=>t.src==(i:Int):=fun i hi=>by
        rw [List.filter_append]
        have:([t].filter fun t=>t.src==(i:Int))=[]:=by
         rw [eF]; intro x hx; simp only [aW] at hx; subst hx; simp only [beq_iff_eq]; omega
        rw [this,bu]
       have hfe:((c.trans++[t]).filter fun t=>t.src==(sl.length:Int))=(c.trans.filter fun t=>t.src==(sl.length:Int))++[t]:=by
        rw [List.filter_append]
        congr 1
        rw [gn]; intro x hx; simp only [aW] at hx; subst hx; rw [beq_iff_eq]; exact hsrc
       have hL:=tL (c:=c) (c':={ c with trans:=c.trans++[t] }) hsp hsp rfl rfl hfl
       rw [jm,jm] at hL
       simp only [hfe,cm,eN,aw,bI,eL,List.sum_nil] at hL
       have h5:=iL (l:=l) (ws:=la t) (by
        rw [hln,pc hn,hke]
        exact .cons (av _) (.cons f1.2 (.cons f2.2 (.cons f3.2 (.cons f4.2 .nil)))))
       rw [show bF l=s.depth.toNat+1 by
        have:0≤s.depth:=by
         have hso:fj s=true:=al.1 p.states s (by rw [hsp]; simp)
         simp only [fj,ab,decide_eq_true_eq] at hso
         exact hso.2.2.2.1
        omega] at h5
       omega
   · cases hown
 rw [if_neg hke] at h
 cases h
end Go.Proofs.YtpfidgnkokidoaaGreatDoor
