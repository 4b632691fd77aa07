/- An executor for function bodies of the model over data, part PT: a statement whose order Go leaves open, with operations that write the call's own blocks, and with such as are done only if another one says so: the symbolic run. Conditions: each operation's own. An executor for function bodies of the model over data, part PU: statements whose order Go leaves open, with operations that write: how such a statement comes to its end. Conditions: each operation's own. -/
import Derived.Test.YtlhgnjmdopjpeaaGreatDoorPO
namespace Go.Ev
open Go.RowKit
/-! ### numbers that a turning leaves alone -/
theorem hP{α:Type}{f:α→α}{l:List α}(h:∀x∈l,f x=x):l.map f=l:=by
 induction l with
 |nil=>rfl
 |cons a l ih=>rw[aq,h a az,ih fun x hx=>h x (aD _ hx)]
section
variable{ρ:Nat→Nat}
theorem RC.map_eq{s:RC}(h:∀i∈s.refs,ρ i=i):s.map ρ=s:=by
 cases s with
 |pd p=>rfl
 |loc i o=>simp only[RC.map];rw[h i (by simp[RC.refs])]
theorem SC.map_eq{s:SC}(h:∀i∈s.refs,ρ i=i):s.map ρ=s:=by
 cases s with
 |pd p=>rfl
 |loc i o=>simp only[SC.map];rw[h i (by simp[SC.refs])]
 |own i=>simp only[SC.map];rw[h i (by simp[SC.refs])]
 |oat i j sz o=>simp only[SC.map];rw[h i (by simp[SC.refs])]
 | fn f a b =>
   simp only[SC.map,SC.refs]at h ⊢
   rw[hP fun x hx=>RC.map_eq fun i hi=>h i (cH _ (a7.2 ⟨x,hx,hi⟩)),hP fun x hx=>RC.map_eq fun i hi=>h i (ct _ (a7.2 ⟨x,hx,hi⟩))]
theorem SX.map_eq{s:SX}(h:∀i∈s.refs,ρ i=i):s.map ρ=s:=by
 cases s with
 |c s=>simp only[SX.map];rw[SC.map_eq h]
 |agg cs=>simp only[SX.map];rw[hP fun x hx=>SC.map_eq fun i hi=>h i (a7.2 ⟨x,hx,hi⟩)]
theorem SV.map_eq{s:SV}(h:∀i∈s.refs,ρ i=i):s.map ρ=s:=by
 cases s with
 |x s=>simp only[SV.map];rw[SX.map_eq h]
 |tup l=>simp only[SV.map];rw[hP fun x hx=>SX.map_eq fun i hi=>h i (a7.2 ⟨x,hx,hi⟩)]
 |grd s b v=>simp only[SV.map];rw[SX.map_eq h]
theorem Chunk.map_eq{s:Chunk}(h:∀i∈s.refs,ρ i=i):s.map ρ=s:=by
 cases s with
 |dead=>rfl
 |cells cs e=>simp only[Chunk.map];rw[hP fun x hx=>SC.map_eq fun i hi=>h i (a7.2 ⟨x,hx,hi⟩)]
 |own e t l=>rfl
 | obj o =>
   cases o with
   |set=>rfl
   |it j d c=>simp only[Chunk.map,Ob.map];rw[h j (by simp[Chunk.refs,Ob.refs])]
end
theorem SV.R_on{V V':Vn}{s:SV}(hle:HLe V.H V'.H)(h:∀i∈s.refs,V'.σ i=V.σ i∧V'.ov i=V.ov i){v:Value}(hr:s.R V v):s.R V' v:=by
 have ht:Turned (fun i=>i) V V' s.refs:=⟨hle,h⟩
 cases s with
 |x s=>have:=SX.R_map ht hr;rwa[SX.map_eq fun _ _=>rfl]at this
 | tup l =>
   obtain⟨us,e,h1⟩:=hr
   have:=lg ht h1
   rw[hP fun x _=>SX.map_eq fun _ _=>rfl]at this
   exact⟨us,e,this⟩
 |grd s b v=>exact hr
theorem cO.on{V V':Vn}{a:Act}{t:Nat}{sv:SV}(hle:HLe V.H V'.H)(h:∀i∈sv.refs,V'.σ i=V.σ i∧V'.ov i=V.ov i)(hk:cO V a t sv):cO V' a t sv:=by
 have:=cO.map (ρ:=fun i=>i) (V':=V') ⟨hle,h⟩ hk
 rwa[SV.map_eq fun _ _=>rfl]at this
/-! ### ancestors -/
def B6(x:Nat)(l:List Nat):List Nat:=bif l.any (Nat.beq x)then l else x::l
def AN(t:List (List Nat))(o:Oper):List Nat:=(cR o).foldl (fun l j=>(j::t.getD j []).foldl (fun l x=>B6 x l) l) []
def cX:List Oper→List (List Nat)→List (List Nat)
 |[],t=>t
 |o::r,t=>cX r (t++[AN t o])
def dN(A:List (List Nat))(i:Nat):List Nat:=A.getD i []
def jw(ops:Array Oper):Bool:=nF (ka ops)&&(ops.toList.zipIdx.all fun p=>(cR p.1).all fun j=>Nat.blt j p.2)
/-! ### what the operations that are done have left of the chunks -/
abbrev Eff:=List (Nat×Nat×Chunk)
def eA(D:Nat→Bool):Eff→Nat→Option Chunk
 |[],_=>none
 |q::r,x=>bif Nat.beq q.2.1 x&&D q.1 then some q.2.2 else eA D r x
def iD(E:Eff)(D:Nat→Bool):List Chunk→Nat→List Chunk
 |[],_=>[]
 |c::r,x=>(eA D E x).getD c::iD E D r (x+1)
def ee:List (Nat×Chunk)→Nat→Option Chunk
 |[],_=>none
 |p::r,x=>bif Nat.beq p.1 x then some p.2 else ee r x
def vis(A:List (List Nat))(i x:Nat)(T:List (Nat×Nat)):Bool :=
 T.all fun q=>!Nat.beq q.2 x||Nat.beq q.1 i||(dN A i).any (Nat.beq q.1)||(dN A q.1).any (Nat.beq i)
def viewAux(A:List (List Nat))(T:List (Nat×Nat))(E:Eff)(i:Nat):List Chunk→Nat→List Chunk
 |[],_=>[]
 |c::r,x=>(bif vis A i x T then(eA (fun k=>(dN A i).any (Nat.beq k)) E x).getD c else .dead)::viewAux A T E i r (x+1)
/-! ### the run -/
structure FX where
 sv:SV
 on:Option (Nat×Nat×Bool×Prop)
def FX.R(V:Vn)(fo:FX)(v:Value):Prop:=match fo.on with
 |none=>fo.sv.R V v
 |some q=>(q.2.2.2→fo.sv.R V v)∧(¬q.2.2.2→v=undef)
def gk(want b:Bool):Option (Nat×Nat×Bool×Prop)→Prop
 |none=>b=want
 |some q=>q.2.2.2∧b=want
def AF(cfg:Cfg):Bool:=cfg.tab.any fun e=>Nat.beq e.1 1000000007
def E5(cfg:Cfg)(ops:Array Oper)(i:Nat):Option Bool:=bif cfg.tab.any (fun e=>Nat.beq e.1 1000000009)then ops.toList.findSome? (fun o=>match o.guard with
 |some (j,want)=>bif Nat.beq j i then some (bif cfg.tab.any (fun e=>Nat.beq e.1 (1000001000+i))then !want else want)else none
 |none=>none)else none
def p6(ask:Option Bool)(p:Option Prop)(sv:SV):Option Prop×SV:=match ask with
 |none=>(p,sv)
 | some want=>match sv with
   | .x (.c (.pd (.bool b)))=>(some (match p with
     |none=>b=want
     |some q=>q∧b=want),.x (.c (.pd (.bool want))))
   |_=>(p,sv)
theorem D9{ask:Option Bool}{p:Option Prop}{sv:SV}(h:Holds (p6 ask p sv).1):Holds p∧(p6 ask p sv).2=sv:=by
 cases ask with
 |none=>exact⟨h,rfl⟩
 | some want =>
   by_cases hb:∃b,sv = .x (.c (.pd (.bool b)))
   · obtain⟨b,rfl⟩:=hb
     cases p with
     | none =>
       have h':b=want:=h
       exact⟨trivial,by rw[h'];rfl⟩
     | some q =>
       have h':q∧b=want:=h
       exact⟨h'.1,by rw[h'.2];rfl⟩
   · have e:p6 (some want) p sv=(p,sv):=by
      unfold p6
      simp only
      split
      ·exact absurd ⟨_,rfl⟩ hb
      ·rfl
     rw[e]at h ⊢
     exact⟨h,rfl⟩
def qN (lit:Bool) (ops:Array Oper) (fs:List FX) (An:List Nat) (o:Oper):Option (Option (Nat×Nat×Bool×Prop)) :=
 match o.guard with
 |none=>some none
 | some (j,want)=>bif An.any (Nat.beq j)then match fs[j]?,cS ops j with
    | some ⟨.x (.c (.pd (.bool b))),on⟩,some s=>bif lit then(match on with
      |none=>bif b==want then some none else some (some (j,s,want,gk want b none))
      |some q=>some (some (j,s,want,gk want b (some q))))else some (some (j,s,want,gk want b on))
    |_,_=>none
   else none
def l4(ops:Array Oper)(fs:List FX)(all:List Nat):List Nat→List (Nat×SV)
 |[]=>[]
 | j::r=>match fs[j]?,cS ops j with
   |some ⟨sv,none⟩,some d=>(d,sv)::l4 ops fs all r
   |some ⟨.x v,some (g,s,want,_)⟩,some d=>bif all.any (Nat.beq g)then(d,.grd s want v)::l4 ops fs all r else l4 ops fs all r
   |_,_=>l4 ops fs all r
def stX(base:ST)(ck:List Chunk)(ops:Array Oper)(fs:List FX)(l:List Nat):ST:={base with fr:=l4 ops fs l l++base.fr,ck:=ck}
def G5 (P:Program) (cfg:Cfg) (s:ST) (g:Option (Nat×Bool)) (op:Op):Option (Option Prop×SV) :=
 match Ce P s g op with
 |some (p,sx)=>some (p,.x sx)
 | none=>match g with
   | some _=>match callee P cfg.tys s g op with
     |some (f,args)=>goB P cfg s f args
     |none=>none
   | none=>match opT s op with
     |some l=>some (none,.tup l)
     | none=>match opC s op with
       |some sx=>some (none,.x sx)
       | none=>match callee P cfg.tys s none op with
         |some (f,args)=>bif within [] (args.flatMap SX.refs)then none else goB P cfg s f args
         |none=>none
def opN (P:Program) (st:ST):Op→Option SX
 | .buildSlice t len parts=>match P.underlying t with
   | some (.slice e)=>match gE P e,l8 P e,kJ st none parts.toList with
     | some n,some z,some ps=>match mo (fun i=>some (i * n,n)) (CA z len) ps with
       | some cells=>match oS cells with
         |some l=>bif st.wf&&Nat.beq n 1&&Nat.ble (len * n) 16777216&&Nat.beq z.length n&&Nat.beq l.length len&&cells.all (SC.lt st.ck.length)then some (.c (.pd (.fns l)))else none
         |none=>none
       |none=>none
     |_,_,_=>none
   |_=>none
 |_=>none
def On(P:Program)(cfg:Cfg)(s:ST)(o:Oper):Option (Option Prop×SV×List Chunk) :=
 match opN P s o.op with
 |some sx=>some (none,.x sx,s.ck)
 |none=>match opM P cfg.tys s o.op with
 |some (sx,ck')=>some (none,.x sx,ck')
 | none=>match opS P s o.op,o.dst with
   |some (p,ck'),none=>some (p,.tup [],ck')
   | _,_=>match opX P s o.op with
     |some (p,sx,ck')=>some (p,.x sx,ck')
     | none=>match callee P cfg.tys s none o.op with
       |some (f,args)=>goA P cfg.tab s f args
       |none=>none
def OU (m:List Nat) (s:ST):Option ST:=match fu s.ck m with
 | some ck0=>bif gD m&&within m (ck0.flatMap Chunk.refs)then
    some {n:=s.n,fr:=(s.fr.filter fun p=>within m p.2.refs).map (fun p=>(p.1,p.2.map fun i=>c6 i m 0)),ck:=ck0.map (Chunk.map fun i=>c6 i m 0),kn:=[],m:=m.length}
   else none
 |none=>none
def ren(a b:Nat)(x:Nat):Nat:=bif Nat.beq x a then b else x
def jK:Nat→List Chunk→SV→Option SV
 |_,[],sv=>some sv
 |n,.own _ t l::r,sv=>jK (n+1) r (sv.frz (.own n t l))
 |_,_::_,_=>none
def AA(q:Op→Nat→Bool)(ops:Array Oper):Nat→Nat→Bool
 |0,_=>false
 | n+1,t=>ops.toList.any fun o=>q o.op t||match o.op with
   |.move (.tmp s) |.assign (.tmp s)=>Nat.beq s t&&(match o.dst with |some d=>AA q ops n d |none=>false)
   |.extract (.tmp s) _=>Nat.beq s t&&(match o.dst with |some d=>AA q ops n d |none=>false)
   |_=>false
def isT(t:Nat):Operand→Bool
 |.tmp s=>Nat.beq s t
 |_=>false
def SR:Op→Nat→Bool
 | .call {callee:=.builtin .append,args:=args,argTypes:=_},t=>match args.toList with
   |x::_=>isT t x
   |[]=>false
 |_,_=>false
def SB:Op→Nat→Bool
 |.call {callee:=.value _,args:=args,argTypes:=_},t=>args.toList.any (isT t)
 |_,_=>false
def R0:Op→Bool
 |.call {callee:=.value _,args:=_,argTypes:=_}=>true
 |_=>false
def Sr(ops:Array Oper)(o:Oper):Bool:=match o.dst with
 |some d=>AA SR ops 4 d||(!R0 o.op && !AA SB ops 4 d)
 |none=>false
def OQ:Chunk→Bool
 |.obj _=>true
 |.cells _ _=>true
 |_=>false
def marked:List Chunk→Option (List Chunk)
 |[.dead]=>some []
 |.own e t l::r=>(marked r).map (.own e t l::·)
 |_=>none
def tR(n x sz k y:Nat):Nat:=bif Nat.ble n y&&Nat.blt y (n+k)then x+(y - n) * sz else y
def nR(x sz:Nat):Nat→List Chunk→List (Nat×Chunk)
 |_,[]=>[]
 |j,c::r=>(x+j * sz,c)::nR x sz (j+1) r
def okR(b:Nat)(l:List Nat):Bool:=l.all fun y=>Nat.blt y b
def M8 (n x sz:Nat) (m:List Nat) (keep:Bool) (ret:SV) (ck2:List Chunk):Option (SV×List (Nat×Chunk)) :=
 match ck2.drop m.length with
 |[]=>some (ret.map (back m n),m.zip (ck2.map (Chunk.map (back m n))))
 | [c]=>bif keep||OQ c then
    some ((ret.map (back m n)).map (ren n x),m.zip ((ck2.map (Chunk.map (back m n))).map (Chunk.map (ren n x)))++[(x,(c.map (back m n)).map (ren n x))])
   else match jK n [c.map (back m n)] (ret.map (back m n))with
    |some sv=>some (sv,m.zip (ck2.map (Chunk.map (back m n))))
    |none=>none
 | l => match marked l with
   | some L=>bif Nat.ble L.length 3&&okR (n+L.length) (ret.map (back m n)).refs&&okR (n+L.length) ((ck2.map (Chunk.map (back m n))).flatMap Chunk.refs)then
      some ((ret.map (back m n)).map (tR n x sz L.length),m.zip ((ck2.map (Chunk.map (back m n))).map (Chunk.map (tR n x sz L.length)))++nR x sz 0 L)
     else none
   | none=>match jK n (l.map (Chunk.map (back m n))) (ret.map (back m n))with
     |some sv=>some (sv,m.zip (ck2.map (Chunk.map (back m n))))
     |none=>none
def ow(n0 sz y:Nat):Nat:=(y - n0) % sz
def OO (P:Program) (cfg:Cfg) (ops:Array Oper) (A:List (List Nat)) (T:List (Nat×Nat)) (n0 i:Nat) (s:ST) (m:List Nat) (o:Oper):Option (Option Prop×SV×List (Nat×Chunk)) :=
 bif m.all (fun x=>vis A i x T && !(Nat.ble n0 x&&Nat.beq (ow n0 ops.size x) i)&&Nat.blt x s.ck.length)then
  match OU m s with
  | some s'=>match On P cfg s' o with
    |some (p,ret,ck2)=>bif Nat.ble m.length ck2.length&&jM ret then(M8 s.ck.length (n0+i) ops.size m (Sr ops o) ret ck2).map fun r=>(p,r)else none
    |none=>none
  |none=>none
 else none
def MY(fr0:List (Nat×SV))(ops:Array Oper)(A:List (List Nat))(i:Nat)(op:Op):Option SX:=match op with
 | .move (.tmp d)=>match fr0.find? (fun q=>Nat.beq q.1 d)with
   | some (_,.x v)=>bif (List.range ops.size).all (fun j=>match cS ops j with
     |some e=>bif Nat.beq e d then(dN A j).any (Nat.beq i)else true
     |none=>true)then some v else none
   |_=>none
 |_=>none
theorem JZ {fr0:List (Nat×SV)} {ops:Array Oper} {A:List (List Nat)} {i:Nat} {op:Op} {v:SX} (h:MY fr0 ops A i op=some v):∃d,op = .move (.tmp d)∧(d,SV.x v)∈fr0∧∀j,cS ops j=some d→i∈dN A j:=by
 unfold MY at h
 split at h
 · rename_i d
   split at h
   · rename_i d' v' hf
     cases hb:(List.range ops.size).all (fun j=>match cS ops j with
      |some e=>bif Nat.beq e d then(dN A j).any (Nat.beq i)else true
      |none=>true)
     ·rw[hb]at h;cases h
     · rw[hb]at h
       simp only[cond_true,aa]at h
       subst h
       have hm:=List.mem_of_find?_eq_some hf
       have hd:=List.find?_some hf
       have hd':d'=d:=ak hd
       subst hd'
       refine⟨d',rfl,hm,fun j hj=>?_⟩
       have hjs:j<ops.size:=by
        unfold cS at hj
        simp only[bm]at hj
        obtain⟨o,h1,_⟩:=hj
        exact(Array.getElem?_eq_some_iff.1 h1).1
       have:=an.1 hb j (bL.2 hjs)
       rw[hj]at this
       simp only[Nat.beq_refl,cond_true]at this
       exact jy this
   ·cases h
 ·cases h
def mK(P:Program)(cfg:Cfg)(base:ST)(ops:Array Oper)(A:List (List Nat))(T:List (Nat×Nat))(n0:Nat)(fr0:List (Nat×SV))(fs:List FX)(E:Eff)(i:Nat)(o:Oper):Option (Option Prop×FX×List (Nat×Chunk)) :=
 match qN (AF cfg) ops fs (dN A i) o with
 | some none=>match G5 P cfg (stX base (viewAux A T E i base.ck 0) ops fs (dN A i)) none o.op with
   |some (p,sv)=>some ((p6 (E5 cfg ops i) p sv).1,⟨(p6 (E5 cfg ops i) p sv).2,none⟩,[])
   |none=>match MY fr0 ops A i o.op with
   |some v=>some (none,⟨.x v,none⟩,[])
   | none=>match OO P cfg ops A T n0 i (stX base (viewAux A T E i base.ck 0) ops fs (dN A i)) (c8 (viewAux A T E i base.ck 0) (Cd (stX base (viewAux A T E i base.ck 0) ops fs (dN A i)) o.op)) o with
     |some (p,sv,ef)=>some ((p6 (E5 cfg ops i) p sv).1,⟨(p6 (E5 cfg ops i) p sv).2,none⟩,ef)
     |none=>none
 | some (some g)=>match G5 P cfg (stX base (viewAux A T E i base.ck 0) ops fs (dN A i)) (some (g.2.1,g.2.2.1)) o.op with
   |some (p,.x v)=>some (p.map (fun p=>g.2.2.2→p),⟨.x v,some g⟩,[])
   |_=>none
 |none=>none
def oX(n0 sz:Nat)(A:List (List Nat))(i:Nat)(l:List Nat):Bool:=l.all fun y=>Nat.blt y n0||(Nat.blt y (n0+sz * 3)&&(Nat.beq (ow n0 sz y) i||(dN A i).any fun k=>Nat.beq (ow n0 sz y) k))
def wM(n0 sz:Nat)(A:List (List Nat))(T:List (Nat×Nat))(i:Nat)(fo:FX)(ef:List (Nat×Chunk)):Bool :=
 jM fo.sv&&oX n0 sz A i fo.sv.refs&&ef.all fun p=>oX n0 sz A i p.2.refs&&vis A i p.1 T&&oX n0 sz A i [p.1]
def jh(P:Program)(cfg:Cfg)(base:ST)(ops:Array Oper)(A:List (List Nat))(T:List (Nat×Nat))(n0:Nat)(fr0:List (Nat×SV)):List Oper→List FX→Eff→Option (List Prop×List FX×Eff)
 |[],fs,E=>some ([],fs,E)
 | o :: r,fs,E=>match mK P cfg base ops A T n0 fr0 fs E fs.length o with
   | some (p,fo,ef)=>bif wM n0 ops.size A T fs.length fo ef then
      match jh P cfg base ops A T n0 fr0 r (fs++[fo]) (ef.map (fun q=>(fs.length,q.1,q.2))++E)with
      |some (ps,fs',E')=>some (match p with |some p=>p::ps |none=>ps,fs',E')
      |none=>none
     else none
   |none=>none
def GF(E:Eff):List (Nat×Nat):=E.map fun q=>(q.1,q.2.1)
def inT(T:List (Nat×Nat))(E:Eff):Bool:=E.all fun q=>T.any fun t=>Nat.beq t.1 q.1&&Nat.beq t.2 q.2.1
def AD(P:Program)(cfg:Cfg)(base:ST)(ops:Array Oper)(A:List (List Nat))(n0:Nat)(fr0:List (Nat×SV)):Option (List Prop×List FX×Eff) :=
 match jh P cfg base ops A [] n0 fr0 ops.toList [] []with
 | some (ps,fs,E)=>match E with
   |[]=>some (ps,fs,[])
   | q::E=>match jh P cfg base ops A (GF (q::E)) n0 fr0 ops.toList [] []with
     |some (ps2,fs2,E2)=>bif inT (GF (q::E)) E2 then some (ps2,fs2,E2)else none
     |none=>none
 |none=>none
def dz(ops:Array Oper)(st:ST):ST:={dO ops st with ck:=st.ck++List.replicate (ops.size * 3) .dead}
def B7:Chunk→Bool
 |.dead=>true
 |_=>false
def rF(n0:Nat)(ck:List Chunk):List Chunk:=bif (ck.drop n0).all B7 then ck.take n0 else ck
def Sn(s:ST):ST:={s with fr:=s.fr.filter fun p=>p.2.lt s.ck.length}
def Et(ops:Array Oper)(st:ST)(fs:List FX)(E:Eff):ST :=
 Sn (stX (dz ops st) (rF st.ck.length (iD E (fun _=>true) (dz ops st).ck 0)) ops fs (List.range ops.size))
/-! ### what the operations that are done have left -/
theorem qi{E:Eff}{D:Nat→Bool}:∀(l:List Chunk) (x0 j:Nat),(iD E D l x0)[j]?=(l[j]?).map fun c=>(eA D E (x0+j)).getD c
 |[],x0,j=>by simp[iD]
 | c :: r,x0,j=>by
   cases j with
   |zero=>simp[iD]
   | succ j =>
     simp only[iD,List.getElem?_cons_succ]
     rw[qi r (x0+1) j,show x0+1+j=x0+(j+1)from by omega]
theorem mR{E:Eff}{D:Nat→Bool}:∀(l:List Chunk) (x0:Nat),(iD E D l x0).length=l.length
 |[],x0=>rfl
 |c::r,x0=>by simp only[iD,ax];rw[mR r]
theorem oq{A:List (List Nat)}{T:List (Nat×Nat)}{E:Eff}{i:Nat}:∀(l:List Chunk) (x0 j:Nat),(viewAux A T E i l x0)[j]?=(l[j]?).map fun c=>bif vis A i (x0+j) T then(eA (fun k=>(dN A i).any (Nat.beq k)) E (x0+j)).getD c else .dead
 |[],x0,j=>by simp[viewAux]
 | c :: r,x0,j=>by
   cases j with
   |zero=>simp[viewAux]
   | succ j =>
     simp only[viewAux,List.getElem?_cons_succ]
     rw[oq r (x0+1) j,show x0+1+j=x0+(j+1)from by omega]
theorem o6{A:List (List Nat)}{T:List (Nat×Nat)}{E:Eff}{i:Nat}:∀(l:List Chunk) (x0:Nat),(viewAux A T E i l x0).length=l.length
 |[],x0=>rfl
 |c::r,x0=>by simp only[viewAux,ax];rw[o6 r]
theorem ln{D D':Nat→Bool}{x:Nat}:∀{E:Eff},(∀q∈E,q.2.1=x→D q.1=D' q.1)→eA D E x=eA D' E x
 |[],_=>rfl
 | q::r,h=>by
   simp only[eA]
   rw[ln fun q hq=>h q (aD _ hq)]
   cases hb:Nat.beq q.2.1 x
   ·simp
   ·rw[h q az (ak hb)]
theorem mn{D:Nat→Bool}{x:Nat}{E:Eff}:∀{F:Eff},(∀q∈F,q.2.1=x→D q.1=false)→eA D (F++E) x=eA D E x
 |[],_=>rfl
 | q::r,h=>by
   simp only[bO,eA]
   rw[mn fun q hq=>h q (aD _ hq)]
   cases hb:Nat.beq q.2.1 x
   ·simp
   ·rw[h q az (ak hb)];simp
theorem xR{D:Nat→Bool}{i x:Nat}{E:Eff}(hi:D i=true):∀{ef:List (Nat×Chunk)},eA D (ef.map (fun q=>(i,q.1,q.2))++E) x=match ee ef x with |some c=>some c |none=>eA D E x
 |[]=>rfl
 | q::r=>by
   simp only[aq,bO,eA,ee,hi,dF]
   rw[xR hi]
   cases Nat.beq q.1 x <;> rfl
/-! ### ancestors -/
theorem Mp{x y:Nat}{l:List Nat}(h:y∈B6 x l):y=x∨y∈l:=by
 unfold B6 at h
 cases hb:l.any (Nat.beq x)
 ·rw[hb]at h;simpa using h
 ·rw[hb]at h;exact .inr h
theorem vt{y:Nat}:∀{l acc:List Nat},y∈l.foldl (fun l x=>B6 x l) acc→y∈l∨y∈acc
 |[],acc,h=>.inr h
 | x :: l,acc,h=>by
   rw[bT]at h
   rcases vt h with h |h
   ·exact .inl (aD _ h)
   · rcases Mp h with rfl |h
     ·exact .inl az
     ·exact .inr h
theorem K5{t:List (List Nat)}{o:Oper}{y:Nat}(h:y∈AN t o):∃d∈cR o,y=d∨y∈t.getD d []:=by
 have aux:∀(l acc:List Nat),y∈l.foldl (fun l j=>(j::t.getD j []).foldl (fun l x=>B6 x l) l) acc→y∈acc∨∃d∈l,y=d∨y∈t.getD d []:=by
  intro l
  induction l with
  |nil=>intro acc h;exact .inl h
  | cons j l ih =>
    intro acc h
    rw[bT]at h
    rcases ih _ h with h |⟨d,hd,h⟩
    · rcases vt h with h |h
      ·exact .inr ⟨j,az,aI.1 h⟩
      ·exact .inl h
    ·exact .inr ⟨d,aD _ hd,h⟩
 rcases aux _ _ h with h |h
 ·cases h
 ·exact h
theorem AP:∀(l:List Oper) (t:List (List Nat)),(cX l t).length=t.length+l.length∧(cX l t).take t.length=t∧∀(j:Nat) o,l[j]?=some o→(cX l t)[t.length+j]?=some (AN ((cX l t).take (t.length+j)) o)
 |[],t=>by simp[cX]
 | o :: r,t=>by
   obtain⟨h1,h2,h3⟩:=AP r (t++[AN t o])
   simp only[au,ax,bJ]at h1 h2 h3
   simp only[cX,ax]
   have h4:(cX r (t++[AN t o])).take t.length=t:=by
    have:=congrArg (List.take t.length) h2
    rw[fc,dw (by omega)]at this
    simpa using this
   refine⟨by omega,h4,fun j o' hj=>?_⟩
   cases j with
   | zero =>
     simp only[List.getElem?_cons_zero,aa]at hj
     subst hj
     rw[cF,h4]
     have:=congrArg (fun l=>l[t.length]?) h2
     simp only[List.getElem?_take]at this
     rw[if_pos (by omega)]at this
     simpa using this
   | succ j =>
     have:=h3 j o' (by simpa using hj)
     rw[show t.length+(0+1)+j=t.length+(j+1)from by omega]at this
     exact this
theorem AO{ops:Array Oper}(hedge:∀i o,ops[i]?=some o→∀j∈cR o,j<i){i j:Nat}(h:j∈dN (cX ops.toList []) i):∃o,ops[i]?=some o∧∃d∈cR o,j=d∨j∈dN (cX ops.toList []) d:=by
 obtain⟨h1,_,h3⟩:=AP ops.toList []
 simp only[bJ,ba]at h1 h3
 have hi:i<ops.size:=by
  unfold dN at h
  by_cases hi:i<ops.size
  ·exact hi
  · rw[List.getD_eq_getElem?_getD,List.getElem?_eq_none (by rw[h1];simpa using hi)]at h
    simp at h
 have ho:ops[i]?=some ops[i]:=Array.getElem?_eq_getElem hi
 have hg:=h3 i ops[i] (by simp[hi])
 unfold dN at h
 rw[List.getD_eq_getElem?_getD,hg]at h
 obtain⟨d,hd,hj⟩:=K5 h
 have hdi:=hedge i _ ho d hd
 refine⟨_,ho,d,hd,hj.imp id fun hj=>?_⟩
 unfold dN
 rw[List.getD_eq_getElem?_getD,List.getElem?_take,if_pos hdi,←List.getD_eq_getElem?_getD]at hj
 exact hj
theorem OZ{ops:Array Oper}(hedge:∀i o,ops[i]?=some o→∀j∈cR o,j<i)(i:Nat):∀j,j∈dN (cX ops.toList []) i→j<i:=by
 induction i using Nat.strongRecOn with
 | _ i ih =>
   intro j hj
   obtain⟨o,ho,d,hd,h⟩:=AO hedge hj
   have hdi:=hedge i o ho d hd
   rcases h with rfl |h
   ·exact hdi
   ·exact Nat.lt_trans (ih d hdi j h) hdi
theorem xn{ops:Array Oper}(hedge:∀i o,ops[i]?=some o→∀j∈cR o,j<i){D:Nat→Bool}(hD:∀k o',D k=true→ops[k]?=some o'→∀j∈cR o',D j=true)(i:Nat) :
 (∀o,ops[i]?=some o→∀d∈cR o,D d=true)→∀j,j∈dN (cX ops.toList []) i→D j=true:=by
 induction i using Nat.strongRecOn with
 | _ i ih =>
   intro h j hj
   obtain⟨o,ho,d,hd,hj⟩:=AO hedge hj
   have hdd:=h o ho d hd
   rcases hj with rfl |hj
   ·exact hdd
   ·exact ih d (hedge i o ho d hd) (fun o' ho'=>hD d o' hdd ho') j hj
theorem me{α:Type}{f:α→Option Nat}:∀{l:List α},nF (l.filterMap f)=true→∀(i j:Nat) x y d,l[i]?=some x→f x=some d→l[j]?=some y→f y=some d→i=j
 |[],_,i,j,x,y,d,h,_,_,_=>by simp at h
 | a :: r,h,i,j,x,y,d,hi,hx,hj,hy=>by
   cases hfa:f a with
   | none =>
     rw[List.filterMap_cons_none hfa]at h
     cases i with
     |zero=>simp only[List.getElem?_cons_zero,aa]at hi;subst hi;rw[hx]at hfa;cases hfa
     | succ i =>
       cases j with
       |zero=>simp only[List.getElem?_cons_zero,aa]at hj;subst hj;rw[hy]at hfa;cases hfa
       | succ j =>
         simp only[List.getElem?_cons_succ]at hi hj
         rw[me h i j x y d hi hx hj hy]
   | some e =>
     rw[List.filterMap_cons_some hfa]at h
     simp only[nF,af,aK,eU]at h
     have hno:∀(k:Nat) z,r[k]?=some z→f z≠some e:=by
      intro k z hz hfz
      exact h.1 e (List.mem_filterMap.2 ⟨z,List.mem_of_getElem? hz,hfz⟩) (by simp)
     cases i with
     | zero =>
       cases j with
       |zero=>rfl
       | succ j =>
         simp only[List.getElem?_cons_zero,aa,List.getElem?_cons_succ]at hi hj
         subst hi
         rw[hfa]at hx;cases hx
         exact absurd hy (hno j y hj)
     | succ i =>
       cases j with
       | zero =>
         simp only[List.getElem?_cons_zero,aa,List.getElem?_cons_succ]at hi hj
         subst hj
         rw[hfa]at hy;cases hy
         exact absurd hx (hno i x hi)
       | succ j =>
         simp only[List.getElem?_cons_succ]at hi hj
         rw[me h.2 i j x y d hi hx hj hy]
theorem LJ{ops:Array Oper}(h:jw ops=true){i j d:Nat}(hi:cS ops i=some d)(hj:cS ops j=some d):i=j:=by
 simp only[jw,af]at h
 unfold cS at hi hj
 simp only[bm]at hi hj
 obtain⟨o,h1,h2⟩:=hi
 obtain⟨o',h3,h4⟩:=hj
 exact me h.1 i j o o' d (by simpa using h1) h2 (by simpa using h3) h4
theorem qH{ops:Array Oper}(hok:jw ops=true):∀i o,ops[i]?=some o→∀j∈cR o,j<i:=by
 intro i o ho j hj
 simp only[jw,af]at hok
 have h1:=an.1 hok.2 (o,i) (by
  rw[List.mem_zipIdx_iff_getElem?];simpa using ho)
 exact aB (an.1 h1 j hj)
/-! ### the statement, operation by operation -/
def o7(P:Program)(o:Oper)(a:Act)(w:World)(Ψ:Value→World→Prop):Prop :=
 (∃v w',(execOp a.eval o).run P w = .ok (.value v) w'∧Ψ v w') ∨
 (∃w',(execOp a.eval o).run P w = .ok .skip w'∧o.dst=none∧Ψ undef w') ∨
 (∃g args w',(execOp a.eval o).run P w = .ok (.enter g args) w'∧Calls P g args w' fun e w2=>∃v,e = .returned v∧Ψ v w2)
def rJ(Γ:Ctx)(C:(Nat→Bool)→List Chunk)(n0:Nat)(Φ:Nat→Vn→Value→Prop)(D:Nat→Bool)(i:Nat)(V1:Vn)(v:Value)(w':World):Prop :=
 ∃V2,Agree n0 V1 V2∧WOk Γ (C fun k=>D k||Nat.beq k i) V2 w'∧(∀j,D j=true→∀u,Φ j V1 u→Φ j V2 u)∧Φ i V2 v
section
variable{Γ:Ctx}{P:Program}{f:Go.Sy.Md}{R:Ending→World→Prop}{st:ST}{V:Vn}{ops:Array Oper}{kk:List Item}
theorem yL{a:Act}{w:World}{X:List Chunk}(r:Rel Γ {dO ops st with ck:=X} V a w){d:Nat}(hd:d∈ka ops)(v:Value)(hn:d<st.n):Rel Γ {dO ops st with ck:=X} V (a.put (some d) v) w:=by
 have h:=r.forget d v hn
 have he:kW d (dO ops st).fr=(dO ops st).fr:=by
  unfold kW
  apply eD.2
  intro q hq
  have hq2:=(aH.1 hq).2
  simp only[aK,eU,aN,not_or]at hq2
  have:=hq2 d hd
  simp only[cG]at this
  simp[this.1,this.2]
 have he2:kW d ({dO ops st with ck:=X}:ST).fr=(dO ops st).fr:=he
 rw[he2]at h
 exact h
theorem Me (C:(Nat→Bool)→List Chunk) (Φ:Nat→Vn→Value→Prop) (hok:jw ops=true) (hn:(ka ops).all (fun d=>Nat.blt d st.n)=true) (hwf:st.wf=true) (hst:st.m≤st.ck.length) (hC:∀D,st.ck.length≤(C D).length)
 (hobl:∀i o,ops[i]?=some o→∀D:Nat→Bool,D i=false→(∀k o',D k=true→ops[k]?=some o'→∀j∈cR o',D j=true)→(∀j∈cR o,D j=true) →
  ∀V1,Agree st.ck.length V V1→∀a w,Rel Γ {dO ops st with ck:=C D} V1 a w→(∀j d,D j=true→cS ops j=some d→Φ j V1 (a.tmps.getD d undef))→(∀d sv,(d,SV.x sv)∈st.fr→(∀j,cS ops j=some d→D j=false)→sv.R V1 (a.tmps.getD d undef)) →
  (Region.wanted o (yielded ops a.tmps)=true→o7 P o a w (rJ Γ C st.ck.length Φ D i V1))∧(Region.wanted o (yielded ops a.tmps)=false→rJ Γ C st.ck.length Φ D i V1 undef w))
 (hk:∀D:Nat→Bool,(∀i,i<ops.size→D i=true)→∀V1,Agree st.ck.length V V1→∀a w,Rel Γ {dO ops st with ck:=C D} V1 a w→(∀i d,cS ops i=some d→Φ i V1 (a.tmps.getD d undef))→Go.Sy.Fin P f R kk a w) :
 ∀(fuel t:Nat) (listed:Array Bool) V1,Agree st.ck.length V V1→listed.size=ops.size→(leftOf ops listed).length≤fuel→∀a w,Rel Γ {dO ops st with ck:=C fun k=>listed.getD k false} V1 a w→(∀d sv,(d,SV.x sv)∈st.fr→(∀j,cS ops j=some d→listed.getD j false=false)→sv.R V1 (a.tmps.getD d undef)) →
  (∀i d,listed.getD i false=true→cS ops i=some d→Φ i V1 (a.tmps.getD d undef))→(∀i o,listed.getD i false=true→ops[i]?=some o→∀j∈cR o,listed.getD j false=true) →
  Go.Sy.Fin P f R (.inRegion ops (Region.linearise.go .any ops fuel t listed [])::kk) a w:=by
 have hedge:=qH hok
 have hbinds:∀e:Edge,Region.binds .any e=bound e:=by intro e;unfold Region.binds bound;cases e.ground <;> rfl
 have hall:∀listed:Array Bool,listed.size=ops.size→(∀i,i<ops.size→listed.getD i false=true)→∀i d,cS ops i=some d→listed.getD i false=true:=by
  intro listed hs h i d hd
  unfold cS at hd
  simp only[bm]at hd
  obtain⟨o,h1,_⟩:=hd
  exact h i (Array.getElem?_eq_some_iff.1 h1).1
 have hfinish:∀(listed:Array Bool) V1,Agree st.ck.length V V1→listed.size=ops.size→leftOf ops listed=[]→∀a w,Rel Γ {dO ops st with ck:=C fun k=>listed.getD k false} V1 a w →
  (∀i d,listed.getD i false=true→cS ops i=some d→Φ i V1 (a.tmps.getD d undef))→Go.Sy.Fin P f R (.inRegion ops []::kk) a w:=by
  intro listed V1 hH hs hl a w r hd
  have hdone:∀i,i<ops.size→listed.getD i false=true:=fun i hi=>?_
  ·exact Go.Sy.Fin.region_end (hk _ hdone V1 hH a w r fun i d hid=>hd i d (hall listed hs hdone i d hid) hid)
  have:=List.filter_eq_nil_iff.1 hl i (by simpa using hi)
  simp only[cG,dM]at this
  rw[Array.getD_eq_getD_getElem?,Array.getElem?_eq_getElem (by omega)]at this ⊢
  simpa using this
 intro fuel
 induction fuel with
 | zero =>
   intro t listed V1 hH hs hl a w r _ hd _
   simp only[Region.linearise.go,List.reverse_nil]
   exact hfinish listed V1 hH hs (bE (by omega)) a w r hd
 | succ fuel ih =>
   intro t listed V1 hH hs hl a w r hold hd hcl
   simp only[Region.linearise.go]
   change Go.Sy.Fin P f R (.inRegion ops (match(Region.ready .any ops listed)[t % (Region.ready .any ops listed).length]? with
    |some i=>Region.linearise.go .any ops fuel (t / (Region.ready .any ops listed).length) (listed.setIfInBounds i true) [i]
    |none=>[].reverse)::kk) a w
   cases hi:(Region.ready .any ops listed)[t % (Region.ready .any ops listed).length]? with
   | none =>
     have hnil:Region.ready .any ops listed=[]:=by
      cases hr:Region.ready .any ops listed with
      |nil=>rfl
      | cons x xs =>
        rw[hr]at hi
        have hlt:t % (x::xs).length<(x::xs).length:=Nat.mod_lt _ (by simp)
        rw[List.getElem?_eq_none_iff]at hi
        omega
     refine hfinish listed V1 hH hs ?_ a w r hd
     cases hleft:leftOf ops listed with
     |nil=>rfl
     | cons x xs =>
       exfalso
       have hex:∃m,m∈leftOf ops listed∧∀y,y<m→y ∉ leftOf ops listed:=by
        have:∃m,m∈leftOf ops listed:=⟨x,by rw[hleft];exact az⟩
        obtain⟨m,hm⟩:=this
        induction m using Nat.strongRecOn with
        | _ m ihm =>
          by_cases h:∃y,y<m∧y∈leftOf ops listed
          ·obtain⟨y,h1,h2⟩:=h;exact ihm y h1 h2
          ·exact⟨m,hm,fun y hy hy2=>h ⟨y,hy,hy2⟩⟩
       obtain⟨m,hm,hmin⟩:=hex
       have hm2:m<ops.size:=by have:=(aH.1 hm).1;simpa using this
       have:m∈Region.ready .any ops listed:=by
        unfold Region.ready
        refine aH.2 ⟨by simpa using hm2,?_⟩
        have hmo:=(aH.1 hm).2
        simp only[af]
        refine⟨hmo,?_⟩
        have ho:ops[m]?=some ops[m]:=Array.getElem?_eq_getElem hm2
        rw[ho]
        simp only[bu,Option.getD_some]
        rw[←Array.all_toList]
        refine an.2 fun e he=>?_
        simp only[aN,aK]
        by_cases hb:bound e=true
        · right
          have hj:e.on∈cR ops[m]:=aM.2 ⟨e,aH.2 ⟨he,hb⟩,rfl⟩
          have hlt:=hedge m _ ho e.on hj
          have:=hmin e.on hlt
          have hno:¬(e.on∈leftOf ops listed):=this
          unfold leftOf at hno
          rw[aH]at hno
          simp only[bL,not_and,cG,dM]at hno
          have:=hno (by omega)
          rw[Array.getD_eq_getD_getElem?,Array.getElem?_eq_getElem (by omega)]at this ⊢
          simpa using this
        ·left;rw[hbinds];simpa using hb
       rw[hnil]at this
       cases this
   | some i =>
     simp only[]
     have hmem:=List.mem_of_getElem? hi
     unfold Region.ready at hmem
     obtain⟨h1,h2⟩:=aH.1 hmem
     simp only[af]at h2
     have hi2:i<ops.size:=by simpa using h1
     have ho:ops[i]?=some ops[i]:=Array.getElem?_eq_getElem hi2
     rw[ho]at h2
     simp only[bu,Option.getD_some]at h2
     have hdeps:∀j∈cR ops[i],listed.getD j false=true:=by
      intro j hj
      obtain⟨e,he,rfl⟩:=aM.1 hj
      obtain⟨he1,he2⟩:=aH.1 he
      have h3:=h2.2
      rw[←Array.all_toList]at h3
      have:=an.1 h3 e he1
      rw[hbinds,he2]at this
      simpa using this
     have hDi:listed.getD i false=false:=by
      have:=h2.1
      rw[Array.getD_eq_getD_getElem?,Array.getElem?_eq_getElem (by omega)]at this ⊢
      simpa using this
     have hgo:=hobl i _ ho (fun k=>listed.getD k false) hDi hcl hdeps V1 hH a w r hd hold
     have hleft:i∈leftOf ops listed:=aH.2 ⟨h1,h2.1⟩
     have hcnt:=GK hs hleft
     have hlist:∀x,(listed.setIfInBounds i true).getD x false=true→x=i∨listed.getD x false=true:=by
      intro x hx
      by_cases e:x=i
      ·exact .inl e
      · right
        rw[Array.getD_eq_getD_getElem?,Array.getElem?_setIfInBounds_ne (Ne.symm e)]at hx
        rw[Array.getD_eq_getD_getElem?];exact hx
     have hlist2:∀x,listed.getD x false=true→(listed.setIfInBounds i true).getD x false=true:=by
      intro x hx
      by_cases e:x=i
      ·subst e;rw[Array.getD_eq_getD_getElem?,Array.getElem?_setIfInBounds_self_of_lt (by omega)];rfl
      · rw[Array.getD_eq_getD_getElem?,Array.getElem?_setIfInBounds_ne (Ne.symm e)]
        rw[Array.getD_eq_getD_getElem?]at hx;exact hx
     have hfun:(fun k=>listed.getD k false||Nat.beq k i)=fun k=>(listed.setIfInBounds i true).getD k false:=by
      funext k
      by_cases e:k=i
      · subst e
        have:(listed.setIfInBounds k true).getD k false=true:=by rw[Array.getD_eq_getD_getElem?,Array.getElem?_setIfInBounds_self_of_lt (by omega)];rfl
        rw[this];simp
      · have hb:Nat.beq k i=false:=by
         cases hb:Nat.beq k i
         ·rfl
         ·exact absurd (ak hb) e
        have:(listed.setIfInBounds i true).getD k false=listed.getD k false:=by rw[Array.getD_eq_getD_getElem?,Array.getElem?_setIfInBounds_ne (Ne.symm e),←Array.getD_eq_getD_getElem?]
        rw[this,hb,bN]
     have hnext:∀v w',rJ Γ C st.ck.length Φ (fun k=>listed.getD k false) i V1 v w' →
      Go.Sy.Fin P f R (.inRegion ops (Region.linearise.go .any ops fuel (t / (Region.ready .any ops listed).length) (listed.setIfInBounds i true) [])::kk) (a.put ops[i].dst v) w':=by
      rintro v w' ⟨V2,g1,g2,g3,g4⟩
      rw[hfun]at g2
      have r2:Rel Γ {dO ops st with ck:=C fun k=>(listed.setIfInBounds i true).getD k false} V2 a w':=by
       have hwf2:=Dm (ops:=ops) hwf
       simp only[ST.wf,af]at hwf2
       refine{size:=r.size,defers:=r.defers,slots:=fun t sv hm=>(r.slots t sv hm).agree g1 (an.1 hwf2.1 _ hm),wok:=g2,few:=⟨r.few.1,?_⟩}
       exact aC hst (hC _)
      have hcl2:∀x o',(listed.setIfInBounds i true).getD x false=true→ops[x]?=some o'→∀j∈cR o',(listed.setIfInBounds i true).getD j false=true:=by
       intro x o' hx hxo j hj
       rcases hlist x hx with rfl |hx
       · rw[ho]at hxo
         simp only[aa]at hxo
         subst hxo
         exact hlist2 j (hdeps j hj)
       ·exact hlist2 j (hcl x o' hx hxo j hj)
      have hold2:∀d sv,(d,SV.x sv)∈st.fr→(∀j,cS ops j=some d→(listed.setIfInBounds i true).getD j false=false)→sv.R V2 (a.tmps.getD d undef):=by
       intro d sv hp hj
       have hwf0:=hwf
       simp only[ST.wf,af]at hwf0
       refine SX.R_agree g1 (an.1 hwf0.1 _ hp) (hold d sv hp fun j hjd=>?_)
       cases hl:listed.getD j false with
       |false=>rfl
       |true=>have h5:=hlist2 j hl;rw[hj j hjd]at h5;cases h5
      cases hdd:ops[i].dst with
      | none =>
        refine ih _ _ V2 (hH.trans g1) (by rw[du];exact hs) (by omega) _ w' r2 hold2 ?_ hcl2
        intro x e hx hxe
        rcases hlist x hx with rfl |hx
        ·simp[cS,ho,hdd]at hxe
        ·exact g3 x hx _ (hd x e hx hxe)
      | some d =>
        have hid:cS ops i=some d:=by simp[cS,ho,hdd]
        have hdm:d∈ka ops:=List.mem_filterMap.2 ⟨ops[i],by simp,hdd⟩
        have hdn:d<st.n:=aB (an.1 hn d hdm)
        have hput:∀x,(a.put (some d) v).tmps.getD x undef=if x=d then v else a.tmps.getD x undef:=fun x=>pz _ _ _ _ (by rw[r2.size];exact hdn)
        refine ih _ _ V2 (hH.trans g1) (by rw[du];exact hs) (by omega) _ w' (yL r2 hdm v hdn) (fun x sv hp hj=>?_) ?_ hcl2
        · have hself:(listed.setIfInBounds i true).getD i false=true:=by rw[Array.getD_eq_getD_getElem?,Array.getElem?_setIfInBounds_self_of_lt (by omega)];rfl
          have hne:x≠d:=fun e=>by have:=hj i (by rw[hid,e]);rw[hself]at this;cases this
          rw[hput,if_neg hne]
          exact hold2 x sv hp hj
        intro x e hx hxe
        rw[hput]
        rcases hlist x hx with rfl |hx
        · rw[hid]at hxe
          simp only[aa]at hxe
          subst hxe
          rw[if_pos rfl];exact g4
        · by_cases hed:e=d
          · subst hed
            have:=LJ hok hxe hid
            subst this
            rw[if_pos rfl];exact g4
          ·rw[if_neg hed];exact g3 x hx _ (hd x e hx hxe)
     rw[linearise_go_acc,List.reverse_singleton,List.singleton_append]
     by_cases hw:Region.wanted ops[i] (yielded ops a.tmps)=true
     · rcases hgo.1 hw with⟨v,w',hr,hN⟩ |⟨w',hr,hdn,hN⟩ |⟨g,args,w',hr,hc⟩
       ·exact Go.Sy.Fin.op_value ho hw hr (hnext v w' hN)
       ·exact Go.Sy.Fin.op_skip ho hw hr (hnext undef w' hN)
       · -- a call is entered in the world as it stands
         refine Go.Sy.Fin.op_call ho hw hr (hc.mono fun e w2 hq=>?_)
         obtain⟨v,rfl,hN⟩:=hq
         exact⟨v,rfl,hnext v w2 hN⟩
     · have hw':Region.wanted ops[i] (yielded ops a.tmps)=false:=by simpa using hw
       exact Go.Sy.Fin.op_unwanted ho hw' (hnext undef w (hgo.2 hw'))
end
end Go.Ev
