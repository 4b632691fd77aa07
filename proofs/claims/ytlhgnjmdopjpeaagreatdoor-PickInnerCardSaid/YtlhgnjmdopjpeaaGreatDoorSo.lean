/- The laws' arguments: charts, opened; their sizes by the row's weights. Conditions: none. -/
import Derived.Test.YtlhgnjmdopjpeaaGreatDoorMh
namespace Go.Proofs.YtlhgnjmdopjpeaaGreatDoor
open Go Go.Ev Go.RowKit Go.ChangeShapes Go.WideShapes Go.ChangeAt
set_option maxRecDepth 100000
theorem Q1{W:World}{a:Addr}{u:Value}(h:W.cell? a=some u):a.spot=none:=by
 unfold World.cell? at h
 split at h
 · split at h
   ·cases h
   ·rename_i hn;simpa using hn
 ·cases h
theorem tc{H:Type}{P:Program}{e:TypeId}{p:Nat→Bool}:∀{l:List (DataW H)},(DataW.weightsAll P e l).all p=true→∀d∈l,(d.weights P e).all p=true
 |[],_,d,hd=>by cases hd
 | x::r,h,d,hd=>by
   simp only[DataW.weightsAll,bz,af]at h
   rcases aI.1 hd with rfl |hd
   ·exact h.1
   ·exact tc h.2 d hd
section
variable{Hh:Type}{enc:TypeId×Value→Hh}{P:Program}{W:World}{base:Nat}{spare:Nat→Bool}{held:Bool}
theorem eT (u:ETy) {Q:u.den→Prop} {t e:TypeId} {fuel:Nat} {cs:List Value} {x:DataW Hh×List MemPlace} (ht:P.underlying t=some (.slice e)) (hsz:P.cellsOf e=u.size)
 (hel:∀n cs y,DataW.trod enc P W base spare held n e cs=some y→∃r,All2 (PR (HW W)) (u.enc r) cs∧((y.1.weights P e).all (·≤reachBytes)=true→Q r)) (h:DataW.trod enc P W base spare held fuel t cs=some x) :
 ∃(l:List u.den) (v:Value),cs=[v]∧PR (HW W) (.lst u l) v∧((x.1.weights P t).all (·≤reachBytes)=true→(∀r∈l,Q r)∧l.length * P.bytesOf e≤reachBytes):=by
 rcases Go.Deep.open_slice ht h with⟨rfl,rfl⟩ |⟨a,len,cap,m,n,D,Pl,rfl,_,hl,hm,hmm,rfl,hx⟩
 ·exact⟨[],_,rfl,.emp u none 0 (fun _=>rfl),fun _=>⟨by simp,by simp⟩⟩
 · have hlen:len≤m:=by rw[hmm];split <;> omega
   letI:Inhabited u.den:=⟨u.dflt⟩
   obtain⟨f,hf⟩:=Go.Deep.choose_lt (α:=u.den) (n:=len) (p:=fun i r=>(∃cs,W.cells? base (a.add (i * u.size)) u.size=some cs∧All2 (PR (HW W)) (u.enc r) cs)∧(((D i).weights P e).all (·≤reachBytes)=true→Q r)) (fun i hi=>by
    obtain⟨cs,h1,h2⟩:=hx i (by omega)
    obtain⟨r,hr,hq⟩:=hel _ _ _ h2
    rw[hsz]at h1
    exact⟨r,⟨cs,h1,hr⟩,hq⟩)
   have hfl:((List.range len).map f).length=len:=by simp
   refine⟨(List.range len).map f,_,rfl,?_,?_⟩
   · rcases Nat.eq_zero_or_pos len with h0 |h0
     · subst h0
       exact .emp u (some a) cap (fun h=>by cases h)
     · have hs:a.spot=none:=by
        obtain⟨cs,h1,h2⟩:=(hf 0 h0).1
        obtain⟨_,hl,hc⟩:=World.cells?_some h1
        have h3:=hc 0 u.size_pos
        rw[Nat.zero_mul]at h3
        have h4:(0:Nat)<cs.length:=by rw[hl];exact u.size_pos
        rw[List.getElem?_eq_getElem h4]at h3
        exact Q1 (a:=a) (by simpa[Addr.add]using h3)
       have hcell:∀i,i<len→∀j,j<u.size→∃w cells e fr,W.heap[a.block]?=some (.cells cells e fr)∧cells[a.off+i * u.size+j]?=some w∧∀p,(u.enc (f i))[j]?=some p→PR (HW W) p w:=by
        intro i hi j hj
        obtain⟨cs,h1,h2⟩:=(hf i hi).1
        obtain⟨_,hl,hc⟩:=World.cells?_some h1
        have h3:=hc j hj
        obtain⟨w,hw⟩:∃w,cs[j]?=some w:=⟨cs[j]'(by omega),List.getElem?_eq_getElem (by omega)⟩
        rw[hw]at h3
        have ha:(a.add (i * u.size)).add j=a.add (i * u.size+j):=by rw[Go.Deep.add_add]
        rw[ha]at h3
        obtain⟨cells,e',fr,hb,h4⟩:=O7 hs rfl rfl h3
        refine⟨w,cells,e',fr,hb,by rw[gG];exact h4,fun p hp=>?_⟩
        obtain⟨w',h5,h6⟩:=h2.get hp
        rw[hw,aa]at h5
        rw[h5];exact h6
       obtain⟨_,cells,e',fr,hb,_⟩:=hcell 0 h0 0 u.size_pos
       have hbound:a.off+len * u.size≤cells.size:=by
        obtain⟨_,cells',e2,fr2,hb',h4,_⟩:=hcell (len - 1) (by omega) (u.size - 1) (by have:=u.size_pos;omega)
        rw[hb]at hb'
        simp only[aa,Obj.cells.injEq]at hb'
        obtain⟨rfl,_,_⟩:=hb'
        have h5:=(Array.getElem?_eq_some_iff.1 h4).1
        have h6:len * u.size=(len - 1) * u.size+u.size:=by
         have:len=(len - 1)+1:=by omega
         rw[this,cN,Nat.one_mul];simp
        have:=u.size_pos
        omega
       have key:PR (HW W) (.lst u ((List.range len).map f)) (.slice (some ⟨a.block,a.off,none⟩) ((List.range len).map f).length cap):=by
        refine .lst u _ a.block a.off cap cells e' fr hb (by rw[hfl];exact hl) hm (by rw[hfl];exact hbound) ?_
        intro i y hy j p hp w hw
        have hi:i<len:=by have:=(List.getElem?_eq_some_iff.1 hy).1;omega
        simp only[List.getElem?_map,List.getElem?_range hi,bu,aa]at hy
        subst hy
        have hj:j<u.size:=by have:=(List.getElem?_eq_some_iff.1 hp).1;rw[u.enc_length]at this;exact this
        obtain⟨w',cells',e2,fr2,hb',h4,h5⟩:=hcell i hi j hj
        rw[hb]at hb'
        simp only[aa,Obj.cells.injEq]at hb'
        obtain⟨rfl,_,_⟩:=hb'
        rw[hw,aa]at h4
        rw[h4];exact h5 p hp
       rw[hfl]at key
       obtain⟨b,off,sp⟩:=a
       simp only at hs
       subst hs
       exact key
   · intro hw
     simp only[DataW.weights,ht,eH,bz,af,decide_eq_true_eq,aP,gx]at hw ⊢
     refine⟨fun r hr=>?_,aC (bQ _ (by omega)) hw.1⟩
     obtain⟨i,hi,rfl⟩:=aM.1 hr
     exact(hf i (bL.1 hi)).2 (tc hw.2.1 _ (aM.2 ⟨i,hi,rfl⟩))
end
abbrev kO:Nat:=140737488355328
def KZ(_:Str):Prop:=True
def rL(_:Cell):Prop:=True
def Ri(_:Val):Prop:=True
def EX(_:Var):Prop:=True
def nz(r:Deed):Prop:=(r.expr.length * 32≤kO∧∀x∈r.expr,rL x)
def y7(r:Ev.Stat):Prop:=(r.entry.length * 48≤kO∧∀x∈r.entry,nz x)∧(r.leave.length * 48≤kO∧∀x∈r.leave,nz x)
def y8(r:Tran):Prop:=(r.guard.length * 32≤kO∧∀x∈r.guard,rL x)∧(r.acts.length * 48≤kO∧∀x∈r.acts,nz x)
def mO(r:Chart):Prop:=(r.events.length * 16≤kO∧∀x∈r.events,KZ x)∧(r.vars.length * 64≤kO∧∀x∈r.vars,EX x)∧(r.states.length * 96≤kO∧∀x∈r.states,y7 x)∧(r.trans.length * 88≤kO∧∀x∈r.trans,y8 x)
section
variable{Hh:Type}{enc:TypeId×Value→Hh}{W:World}{base:Nat}{spare:Nat→Bool}{held:Bool}
theorem mF{t:TypeId}(ht:Tryz.prog.underlying t=some .string){fuel:Nat}{cs:List Value}{y:DataW Hh×List MemPlace}(h:DataW.trod enc Tryz.prog W base spare held fuel t cs=some y):∃s:Str,cs=[.string (bs s)]:=by
 obtain⟨s,h1,_⟩:=DataW.trod_string ht h
 exact⟨s.data.toList,by rw[h1,lL]⟩
theorem jW{t:TypeId}(ht:Tryz.prog.underlying t=some (.int .i64)){fuel:Nat}{cs:List Value}{y:DataW Hh×List MemPlace}(h:DataW.trod enc Tryz.prog W base spare held fuel t cs=some y):∃n,cs=[.int .i64 n]:=by
 obtain⟨n,h1,_⟩:=DataW.trod_int ht h
 exact⟨n,h1⟩
theorem SM(n:Nat)(cs:List Value)(y:DataW Hh×List MemPlace)(h:DataW.trod enc Tryz.prog W base spare held n 9 cs=some y):∃s:Str,All2 (PR (HW W)) (ETy.str.enc s) cs∧((y.1.weights Tryz.prog 9).all (·≤reachBytes)=true→KZ s):=by
 obtain⟨s,h1⟩:=mF Tryz.underlying9 h
 exact⟨s,by rw[h1];exact .cons (.str s) .nil,fun _=>trivial⟩
theorem HQ(n:Nat)(cs:List Value)(y:DataW Hh×List MemPlace)(h:DataW.trod enc Tryz.prog W base spare held n 124 cs=some y):∃r:Cell,All2 (PR (HW W)) (ETy.cell.enc r) cs∧((y.1.weights Tryz.prog 124).all (·≤reachBytes)=true→rL r):=by
 obtain⟨xs,m,_,hy,hl,hlen,hf⟩:=DataW.trod_struct Tryz.underlying124 h
 have lx:xs.length=3:=hlen
 match xs,lx with
 |[y0,y1,y2],_ =>
 have c0:Tryz.prog.cellsOf 124=3:=by kernel_rfl
 rw[c0]at hl
 have g0:DataW.trod enc Tryz.prog W base spare held m 3 (List.take (Tryz.prog.cellsOf 3) (List.drop 0 cs))=some y0:=hf 0 _ rfl
 have e0:Tryz.prog.cellsOf 3=1:=by kernel_rfl
 rw[e0]at g0
 obtain⟨v0,h0⟩:=jW Tryz.underlying3 g0
 have g1:DataW.trod enc Tryz.prog W base spare held m 2 (List.take (Tryz.prog.cellsOf 2) (List.drop 1 cs))=some y1:=hf 1 _ rfl
 have e1:Tryz.prog.cellsOf 2=1:=by kernel_rfl
 rw[e1]at g1
 obtain⟨v1,h1⟩:=jW Tryz.underlying2 g1
 have g2:DataW.trod enc Tryz.prog W base spare held m 9 (List.take (Tryz.prog.cellsOf 9) (List.drop 2 cs))=some y2:=hf 2 _ rfl
 have e2:Tryz.prog.cellsOf 9=1:=by kernel_rfl
 rw[e2]at g2
 obtain⟨v2,h2⟩:=mF Tryz.underlying9 g2
 have hq:(y.1.weights Tryz.prog 124).all (·≤reachBytes)=true→rL ⟨v0,v1,v2⟩:=by
  intro hw
  exact trivial
 match cs,hl with
 | [u0,u1,u2],_ =>
   simp at h0 h1 h2
   subst h0
   subst h1
   subst h2
   exact⟨⟨v0,v1,v2⟩,.cons (.int _ v0) (.cons (.int _ v1) (.cons (.str v2) (.nil))),hq⟩
theorem SN(n:Nat)(cs:List Value)(y:DataW Hh×List MemPlace)(h:DataW.trod enc Tryz.prog W base spare held n 83 cs=some y):∃r:Val,All2 (PR (HW W)) (ETy.val.enc r) cs∧((y.1.weights Tryz.prog 83).all (·≤reachBytes)=true→Ri r):=by
 obtain⟨xs,m,_,hy,hl,hlen,hf⟩:=DataW.trod_struct Tryz.underlying83 h
 have lx:xs.length=3:=hlen
 match xs,lx with
 |[y0,y1,y2],_ =>
 have c0:Tryz.prog.cellsOf 83=3:=by kernel_rfl
 rw[c0]at hl
 have g0:DataW.trod enc Tryz.prog W base spare held m 3 (List.take (Tryz.prog.cellsOf 3) (List.drop 0 cs))=some y0:=hf 0 _ rfl
 have e0:Tryz.prog.cellsOf 3=1:=by kernel_rfl
 rw[e0]at g0
 obtain⟨v0,h0⟩:=jW Tryz.underlying3 g0
 have g1:DataW.trod enc Tryz.prog W base spare held m 2 (List.take (Tryz.prog.cellsOf 2) (List.drop 1 cs))=some y1:=hf 1 _ rfl
 have e1:Tryz.prog.cellsOf 2=1:=by kernel_rfl
 rw[e1]at g1
 obtain⟨v1,h1⟩:=jW Tryz.underlying2 g1
 have g2:DataW.trod enc Tryz.prog W base spare held m 2 (List.take (Tryz.prog.cellsOf 2) (List.drop 2 cs))=some y2:=hf 2 _ rfl
 have e2:Tryz.prog.cellsOf 2=1:=by kernel_rfl
 rw[e2]at g2
 obtain⟨v2,h2⟩:=jW Tryz.underlying2 g2
 have hq:(y.1.weights Tryz.prog 83).all (·≤reachBytes)=true→Ri ⟨v0,v1,v2⟩:=by
  intro hw
  exact trivial
 match cs,hl with
 | [u0,u1,u2],_ =>
   simp at h0 h1 h2
   subst h0
   subst h1
   subst h2
   exact⟨⟨v0,v1,v2⟩,.cons (.int _ v0) (.cons (.int _ v1) (.cons (.int _ v2) (.nil))),hq⟩
theorem SO(n:Nat)(cs:List Value)(y:DataW Hh×List MemPlace)(h:DataW.trod enc Tryz.prog W base spare held n 85 cs=some y):∃r:Var,All2 (PR (HW W)) (ETy.var.enc r) cs∧((y.1.weights Tryz.prog 85).all (·≤reachBytes)=true→EX r):=by
 obtain⟨xs,m,_,hy,hl,hlen,hf⟩:=DataW.trod_struct Tryz.underlying85 h
 have lx:xs.length=5:=hlen
 match xs,lx with
 |[y0,y1,y2,y3,y4],_ =>
 have c0:Tryz.prog.cellsOf 85=7:=by kernel_rfl
 rw[c0]at hl
 have g0:DataW.trod enc Tryz.prog W base spare held m 9 (List.take (Tryz.prog.cellsOf 9) (List.drop 0 cs))=some y0:=hf 0 _ rfl
 have e0:Tryz.prog.cellsOf 9=1:=by kernel_rfl
 rw[e0]at g0
 obtain⟨v0,h0⟩:=mF Tryz.underlying9 g0
 have g1:DataW.trod enc Tryz.prog W base spare held m 3 (List.take (Tryz.prog.cellsOf 3) (List.drop 1 cs))=some y1:=hf 1 _ rfl
 have e1:Tryz.prog.cellsOf 3=1:=by kernel_rfl
 rw[e1]at g1
 obtain⟨v1,h1⟩:=jW Tryz.underlying3 g1
 have g2:DataW.trod enc Tryz.prog W base spare held m 2 (List.take (Tryz.prog.cellsOf 2) (List.drop 2 cs))=some y2:=hf 2 _ rfl
 have e2:Tryz.prog.cellsOf 2=1:=by kernel_rfl
 rw[e2]at g2
 obtain⟨v2,h2⟩:=jW Tryz.underlying2 g2
 have g3:DataW.trod enc Tryz.prog W base spare held m 2 (List.take (Tryz.prog.cellsOf 2) (List.drop 3 cs))=some y3:=hf 3 _ rfl
 have e3:Tryz.prog.cellsOf 2=1:=by kernel_rfl
 rw[e3]at g3
 obtain⟨v3,h3⟩:=jW Tryz.underlying2 g3
 have g4:DataW.trod enc Tryz.prog W base spare held m 83 (List.take (Tryz.prog.cellsOf 83) (List.drop 4 cs))=some y4:=hf 4 _ rfl
 have e4:Tryz.prog.cellsOf 83=3:=by kernel_rfl
 rw[e4]at g4
 obtain⟨v4,h4,_⟩:=SN _ _ _ g4
 have hq:(y.1.weights Tryz.prog 85).all (·≤reachBytes)=true→EX ⟨v0,v1,v2,v3,v4⟩:=by
  intro hw
  exact trivial
 match cs,hl with
 | [u0,u1,u2,u3,u4,u5,u6],_ =>
   simp at h0 h1 h2 h3 h4
   subst h0
   subst h1
   subst h2
   subst h3
   exact⟨⟨v0,v1,v2,v3,v4⟩,.cons (.str v0) (.cons (.int _ v1) (.cons (.int _ v2) (.cons (.int _ v3) (h4)))),hq⟩
theorem Bq(n:Nat)(cs:List Value)(y:DataW Hh×List MemPlace)(h:DataW.trod enc Tryz.prog W base spare held n 110 cs=some y):∃r:Deed,All2 (PR (HW W)) (ETy.deed.enc r) cs∧((y.1.weights Tryz.prog 110).all (·≤reachBytes)=true→nz r):=by
 obtain⟨xs,m,_,hy,hl,hlen,hf⟩:=DataW.trod_struct Tryz.underlying110 h
 have lx:xs.length=3:=hlen
 match xs,lx with
 |[y0,y1,y2],_ =>
 have c0:Tryz.prog.cellsOf 110=3:=by kernel_rfl
 rw[c0]at hl
 have g0:DataW.trod enc Tryz.prog W base spare held m 3 (List.take (Tryz.prog.cellsOf 3) (List.drop 0 cs))=some y0:=hf 0 _ rfl
 have e0:Tryz.prog.cellsOf 3=1:=by kernel_rfl
 rw[e0]at g0
 obtain⟨v0,h0⟩:=jW Tryz.underlying3 g0
 have g1:DataW.trod enc Tryz.prog W base spare held m 9 (List.take (Tryz.prog.cellsOf 9) (List.drop 1 cs))=some y1:=hf 1 _ rfl
 have e1:Tryz.prog.cellsOf 9=1:=by kernel_rfl
 rw[e1]at g1
 obtain⟨v1,h1⟩:=mF Tryz.underlying9 g1
 have g2:DataW.trod enc Tryz.prog W base spare held m 39 (List.take (Tryz.prog.cellsOf 39) (List.drop 2 cs))=some y2:=hf 2 _ rfl
 have e2:Tryz.prog.cellsOf 39=1:=by kernel_rfl
 rw[e2]at g2
 obtain⟨v2,w2,h2,p2,q2⟩:=eT .cell (Q:=rL) Tryz.underlying39 (by kernel_rfl) HQ g2
 have hq:(y.1.weights Tryz.prog 110).all (·≤reachBytes)=true→nz ⟨v0,v1,v2⟩:=by
  intro hw
  rw[hy]at hw
  have hw2:(y0.1.weights Tryz.prog 3++(y1.1.weights Tryz.prog 9++(y2.1.weights Tryz.prog 39++[]))).all (·≤reachBytes)=true:=by
   simpa[DataW.weights,Tryz.underlying110,DataW.weightsEach]using hw
  simp only[bz,aO,af]at hw2
  obtain⟨z0,z1,z2⟩:=hw2
  have x2:=q2 z2
  rw[show Tryz.prog.bytesOf 124=32 by kernel_rfl]at x2
  have k2:=x2.2
  unfold reachBytes at k2
  exact⟨show v2.length * 32≤140737488355328 by omega,x2.1⟩
 match cs,hl with
 | [u0,u1,u2],_ =>
   simp at h0 h1 h2
   subst h0
   subst h1
   subst h2
   exact⟨⟨v0,v1,v2⟩,.cons (.int _ v0) (.cons (.str v1) (.cons p2 (.nil))),hq⟩
theorem Se(n:Nat)(cs:List Value)(y:DataW Hh×List MemPlace)(h:DataW.trod enc Tryz.prog W base spare held n 57 cs=some y):∃r:Ev.Stat,All2 (PR (HW W)) (ETy.stat.enc r) cs∧((y.1.weights Tryz.prog 57).all (·≤reachBytes)=true→y7 r):=by
 obtain⟨xs,m,_,hy,hl,hlen,hf⟩:=DataW.trod_struct Tryz.underlying57 h
 have lx:xs.length=6:=hlen
 match xs,lx with
 |[y0,y1,y2,y3,y4,y5],_ =>
 have c0:Tryz.prog.cellsOf 57=6:=by kernel_rfl
 rw[c0]at hl
 have g0:DataW.trod enc Tryz.prog W base spare held m 9 (List.take (Tryz.prog.cellsOf 9) (List.drop 0 cs))=some y0:=hf 0 _ rfl
 have e0:Tryz.prog.cellsOf 9=1:=by kernel_rfl
 rw[e0]at g0
 obtain⟨v0,h0⟩:=mF Tryz.underlying9 g0
 have g1:DataW.trod enc Tryz.prog W base spare held m 3 (List.take (Tryz.prog.cellsOf 3) (List.drop 1 cs))=some y1:=hf 1 _ rfl
 have e1:Tryz.prog.cellsOf 3=1:=by kernel_rfl
 rw[e1]at g1
 obtain⟨v1,h1⟩:=jW Tryz.underlying3 g1
 have g2:DataW.trod enc Tryz.prog W base spare held m 3 (List.take (Tryz.prog.cellsOf 3) (List.drop 2 cs))=some y2:=hf 2 _ rfl
 have e2:Tryz.prog.cellsOf 3=1:=by kernel_rfl
 rw[e2]at g2
 obtain⟨v2,h2⟩:=jW Tryz.underlying3 g2
 have g3:DataW.trod enc Tryz.prog W base spare held m 9 (List.take (Tryz.prog.cellsOf 9) (List.drop 3 cs))=some y3:=hf 3 _ rfl
 have e3:Tryz.prog.cellsOf 9=1:=by kernel_rfl
 rw[e3]at g3
 obtain⟨v3,h3⟩:=mF Tryz.underlying9 g3
 have g4:DataW.trod enc Tryz.prog W base spare held m 40 (List.take (Tryz.prog.cellsOf 40) (List.drop 4 cs))=some y4:=hf 4 _ rfl
 have e4:Tryz.prog.cellsOf 40=1:=by kernel_rfl
 rw[e4]at g4
 obtain⟨v4,w4,h4,p4,q4⟩:=eT .deed (Q:=nz) Tryz.underlying40 (by kernel_rfl) Bq g4
 have g5:DataW.trod enc Tryz.prog W base spare held m 40 (List.take (Tryz.prog.cellsOf 40) (List.drop 5 cs))=some y5:=hf 5 _ rfl
 have e5:Tryz.prog.cellsOf 40=1:=by kernel_rfl
 rw[e5]at g5
 obtain⟨v5,w5,h5,p5,q5⟩:=eT .deed (Q:=nz) Tryz.underlying40 (by kernel_rfl) Bq g5
 have hq:(y.1.weights Tryz.prog 57).all (·≤reachBytes)=true→y7 ⟨v0,v1,v2,v3,v4,v5⟩:=by
  intro hw
  rw[hy]at hw
  have hw2:(y0.1.weights Tryz.prog 9++(y1.1.weights Tryz.prog 3++(y2.1.weights Tryz.prog 3++(y3.1.weights Tryz.prog 9++(y4.1.weights Tryz.prog 40++(y5.1.weights Tryz.prog 40++[])))))).all (·≤reachBytes)=true:=by
   simpa[DataW.weights,Tryz.underlying57,DataW.weightsEach]using hw
  simp only[bz,aO,af]at hw2
  obtain⟨z0,z1,z2,z3,z4,z5⟩:=hw2
  have x4:=q4 z4
  rw[show Tryz.prog.bytesOf 110=48 by kernel_rfl]at x4
  have k4:=x4.2
  unfold reachBytes at k4
  have x5:=q5 z5
  rw[show Tryz.prog.bytesOf 110=48 by kernel_rfl]at x5
  have k5:=x5.2
  unfold reachBytes at k5
  exact⟨⟨show v4.length * 48≤140737488355328 by omega,x4.1⟩,⟨show v5.length * 48≤140737488355328 by omega,x5.1⟩⟩
 match cs,hl with
 | [u0,u1,u2,u3,u4,u5],_ =>
   simp at h0 h1 h2 h3 h4 h5
   subst h0
   subst h1
   subst h2
   subst h3
   subst h4
   subst h5
   exact⟨⟨v0,v1,v2,v3,v4,v5⟩,.cons (.str v0) (.cons (.int _ v1) (.cons (.int _ v2) (.cons (.str v3) (.cons p4 (.cons p5 (.nil)))))),hq⟩
theorem Sg(n:Nat)(cs:List Value)(y:DataW Hh×List MemPlace)(h:DataW.trod enc Tryz.prog W base spare held n 42 cs=some y):∃r:Tran,All2 (PR (HW W)) (ETy.tran.enc r) cs∧((y.1.weights Tryz.prog 42).all (·≤reachBytes)=true→y8 r):=by
 obtain⟨xs,m,_,hy,hl,hlen,hf⟩:=DataW.trod_struct Tryz.underlying42 h
 have lx:xs.length=5:=hlen
 match xs,lx with
 |[y0,y1,y2,y3,y4],_ =>
 have c0:Tryz.prog.cellsOf 42=5:=by kernel_rfl
 rw[c0]at hl
 have g0:DataW.trod enc Tryz.prog W base spare held m 3 (List.take (Tryz.prog.cellsOf 3) (List.drop 0 cs))=some y0:=hf 0 _ rfl
 have e0:Tryz.prog.cellsOf 3=1:=by kernel_rfl
 rw[e0]at g0
 obtain⟨v0,h0⟩:=jW Tryz.underlying3 g0
 have g1:DataW.trod enc Tryz.prog W base spare held m 9 (List.take (Tryz.prog.cellsOf 9) (List.drop 1 cs))=some y1:=hf 1 _ rfl
 have e1:Tryz.prog.cellsOf 9=1:=by kernel_rfl
 rw[e1]at g1
 obtain⟨v1,h1⟩:=mF Tryz.underlying9 g1
 have g2:DataW.trod enc Tryz.prog W base spare held m 39 (List.take (Tryz.prog.cellsOf 39) (List.drop 2 cs))=some y2:=hf 2 _ rfl
 have e2:Tryz.prog.cellsOf 39=1:=by kernel_rfl
 rw[e2]at g2
 obtain⟨v2,w2,h2,p2,q2⟩:=eT .cell (Q:=rL) Tryz.underlying39 (by kernel_rfl) HQ g2
 have g3:DataW.trod enc Tryz.prog W base spare held m 9 (List.take (Tryz.prog.cellsOf 9) (List.drop 3 cs))=some y3:=hf 3 _ rfl
 have e3:Tryz.prog.cellsOf 9=1:=by kernel_rfl
 rw[e3]at g3
 obtain⟨v3,h3⟩:=mF Tryz.underlying9 g3
 have g4:DataW.trod enc Tryz.prog W base spare held m 40 (List.take (Tryz.prog.cellsOf 40) (List.drop 4 cs))=some y4:=hf 4 _ rfl
 have e4:Tryz.prog.cellsOf 40=1:=by kernel_rfl
 rw[e4]at g4
 obtain⟨v4,w4,h4,p4,q4⟩:=eT .deed (Q:=nz) Tryz.underlying40 (by kernel_rfl) Bq g4
 have hq:(y.1.weights Tryz.prog 42).all (·≤reachBytes)=true→y8 ⟨v0,v1,v2,v3,v4⟩:=by
  intro hw
  rw[hy]at hw
  have hw2:(y0.1.weights Tryz.prog 3++(y1.1.weights Tryz.prog 9++(y2.1.weights Tryz.prog 39++(y3.1.weights Tryz.prog 9++(y4.1.weights Tryz.prog 40++[]))))).all (·≤reachBytes)=true:=by
   simpa[DataW.weights,Tryz.underlying42,DataW.weightsEach]using hw
  simp only[bz,aO,af]at hw2
  obtain⟨z0,z1,z2,z3,z4⟩:=hw2
  have x2:=q2 z2
  rw[show Tryz.prog.bytesOf 124=32 by kernel_rfl]at x2
  have k2:=x2.2
  unfold reachBytes at k2
  have x4:=q4 z4
  rw[show Tryz.prog.bytesOf 110=48 by kernel_rfl]at x4
  have k4:=x4.2
  unfold reachBytes at k4
  exact⟨⟨show v2.length * 32≤140737488355328 by omega,x2.1⟩,⟨show v4.length * 48≤140737488355328 by omega,x4.1⟩⟩
 match cs,hl with
 | [u0,u1,u2,u3,u4],_ =>
   simp at h0 h1 h2 h3 h4
   subst h0
   subst h1
   subst h2
   subst h3
   subst h4
   exact⟨⟨v0,v1,v2,v3,v4⟩,.cons (.int _ v0) (.cons (.str v1) (.cons p2 (.cons (.str v3) (.cons p4 (.nil))))),hq⟩
theorem PV{cs:Array Value}(h:cs.size=5):∃a b c d e,cs=#[a,b,c,d,e]:=by
 obtain⟨l⟩:=cs
 match l,h with
 |[a,b,c,d,e],_=>exact⟨a,b,c,d,e,rfl⟩
theorem qh{v:Value}{d:DataW Hh}{ps:List MemPlace}{b0:Nat}(h:DataW.Trod enc Tryz.prog W base spare held 27 v d ps)(hv:Value.okWide Tryz.prog W .any b0 27 v) :
 ∃c:Chart,SX.R (VW W) (.e .chart c) v∧((d.weights Tryz.prog 27).all (·≤reachBytes)=true→mO c):=by
 simp only[Value.okWide,Tryz.underlying27]at hv
 obtain⟨cs,rfl,hsz,ts,hts,_,hcs⟩:=hv
 have c26:Tryz.prog.cellsOf 27=5:=by kernel_rfl
 rw[c26]at hsz
 obtain⟨s0,s1,s2,s3,s4,rfl⟩:=PV hsz
 obtain⟨fuel,hf⟩:=h
 obtain⟨xs,m,_,hx,hl,hlen,hf⟩:=DataW.trod_struct Tryz.underlying27 hf
 have lx:xs.length=5:=hlen
 match xs,lx with
 |[y0,y1,y2,y3,y4],_ =>
 simp only[ae]at hx
 have g0:DataW.trod enc Tryz.prog W base spare held m 9 (List.take (Tryz.prog.cellsOf 9) (List.drop 0 [s0,s1,s2,s3,s4]))=some y0:=hf 0 _ rfl
 have e0:Tryz.prog.cellsOf 9=1:=by kernel_rfl
 rw[e0]at g0
 obtain⟨v0,h0⟩:=mF Tryz.underlying9 g0
 have g1:DataW.trod enc Tryz.prog W base spare held m 22 (List.take (Tryz.prog.cellsOf 22) (List.drop 1 [s0,s1,s2,s3,s4]))=some y1:=hf 1 _ rfl
 have e1:Tryz.prog.cellsOf 22=1:=by kernel_rfl
 rw[e1]at g1
 obtain⟨v1,w1,h1,p1,q1⟩:=eT .str (Q:=KZ) Tryz.underlying22 (by kernel_rfl) SM g1
 have g2:DataW.trod enc Tryz.prog W base spare held m 23 (List.take (Tryz.prog.cellsOf 23) (List.drop 2 [s0,s1,s2,s3,s4]))=some y2:=hf 2 _ rfl
 have e2:Tryz.prog.cellsOf 23=1:=by kernel_rfl
 rw[e2]at g2
 obtain⟨v2,w2,h2,p2,q2⟩:=eT .var (Q:=EX) Tryz.underlying23 (by kernel_rfl) SO g2
 have g3:DataW.trod enc Tryz.prog W base spare held m 24 (List.take (Tryz.prog.cellsOf 24) (List.drop 3 [s0,s1,s2,s3,s4]))=some y3:=hf 3 _ rfl
 have e3:Tryz.prog.cellsOf 24=1:=by kernel_rfl
 rw[e3]at g3
 obtain⟨v3,w3,h3,p3,q3⟩:=eT .stat (Q:=y7) Tryz.underlying24 (by kernel_rfl) Se g3
 have g4:DataW.trod enc Tryz.prog W base spare held m 25 (List.take (Tryz.prog.cellsOf 25) (List.drop 4 [s0,s1,s2,s3,s4]))=some y4:=hf 4 _ rfl
 have e4:Tryz.prog.cellsOf 25=1:=by kernel_rfl
 rw[e4]at g4
 obtain⟨v4,w4,h4,p4,q4⟩:=eT .tran (Q:=y8) Tryz.underlying25 (by kernel_rfl) Sg g4
 have hq:(d.weights Tryz.prog 27).all (·≤reachBytes)=true→mO ⟨v0,v1,v2,v3,v4⟩:=by
  intro hw
  rw[hx.1]at hw
  have hw2:(y0.1.weights Tryz.prog 9++(y1.1.weights Tryz.prog 22++(y2.1.weights Tryz.prog 23++(y3.1.weights Tryz.prog 24++(y4.1.weights Tryz.prog 25++[]))))).all (·≤reachBytes)=true:=by
   simpa[DataW.weights,Tryz.underlying27,DataW.weightsEach]using hw
  simp only[bz,aO,af]at hw2
  obtain⟨z0,z1,z2,z3,z4⟩:=hw2
  have x1:=q1 z1
  rw[show Tryz.prog.bytesOf 9=16 by kernel_rfl]at x1
  have k1:=x1.2
  unfold reachBytes at k1
  have x2:=q2 z2
  rw[show Tryz.prog.bytesOf 85=64 by kernel_rfl]at x2
  have k2:=x2.2
  unfold reachBytes at k2
  have x3:=q3 z3
  rw[show Tryz.prog.bytesOf 57=96 by kernel_rfl]at x3
  have k3:=x3.2
  unfold reachBytes at k3
  have x4:=q4 z4
  rw[show Tryz.prog.bytesOf 42=88 by kernel_rfl]at x4
  have k4:=x4.2
  unfold reachBytes at k4
  exact⟨⟨show v1.length * 16≤140737488355328 by omega,x1.1⟩,⟨show v2.length * 64≤140737488355328 by omega,x2.1⟩,⟨show v3.length * 96≤140737488355328 by omega,x3.1⟩,⟨show v4.length * 88≤140737488355328 by omega,x4.1⟩⟩
 simp at h0 h1 h2 h3 h4
 subst h0;subst h1;subst h2;subst h3;subst h4
 exact⟨⟨v0,v1,v2,v3,v4⟩,⟨[_,_,_,_,_],rfl,.cons (.str v0) (.cons p1 (.cons p2 (.cons p3 (.cons p4 (.nil)))))⟩,hq⟩
end
end Go.Proofs.YtlhgnjmdopjpeaaGreatDoor
