/- The laws' arguments: charts, opened; their sizes by the row's weights. Conditions: none. Contracts: the laws ConfBegins, ConfStart. Conditions: sizes. Numbers among the law's arguments. Conditions: none. Contracts: the law ConfStart. Conditions: sizes. -/
import Derived.Test.YtcopfgbbjdefbaaGreatDoorLx
import Derived.Test.YtcopfgbbjdefbaaGreatDoorTa
namespace Go.Proofs.YtcopfgbbjdefbaaGreatDoor
open Go Go.Ev Go.RowKit Go.ChangeShapes Go.WideShapes Go.ChangeAt
set_option maxRecDepth 100000
theorem GT {W:World} {a:Addr} {u:Value} (h:W.cell? a=some u):a.spot=none:=by
 unfold World.cell? at h
 split at h
 · split at h
   · cases h
   · rename_i hn; simpa using hn
 · cases h
theorem oz {H:Type} {P:Program} {e:TypeId} {p:Nat→Bool}:∀ {l:List (DataW H)},(DataW.weightsAll P e l).all p=true→∀ d∈l,(d.weights P e).all p=true
 | [],_,d,hd=>by cases hd
 | x::r,h,d,hd=>by
   simp only [DataW.weightsAll,bt,ae] at h
   rcases aF.1 hd with rfl | hd
   · exact h.1
   · exact oz h.2 d hd
section
variable {Hh:Type} {enc:TypeId×Value→Hh} {P:Program} {W:World} {base:Nat} {spare:Nat→Bool} {held:Bool}
theorem eE (u:ETy) {Q:u.den→Prop} {t e:TypeId} {fuel:Nat} {cs:List Value} {x:DataW Hh×List MemPlace} (ht:P.underlying t=some (.slice e)) (hsz:P.cellsOf e=u.size)
 (hel:∀ n cs y,DataW.trod enc P W base spare held n e cs=some y→∃ r,All2 (PR (HW W)) (u.enc r) cs∧((y.1.weights P e).all (·≤reachBytes)=true→Q r)) (h:DataW.trod enc P W base spare held fuel t cs=some x) :
 ∃ (l:List u.den) (v:Value),cs=[v]∧PR (HW W) (.lst u l) v∧((x.1.weights P t).all (·≤reachBytes)=true→(∀ r∈l,Q r)∧l.length * P.bytesOf e≤reachBytes):=by
 rcases Go.Deep.open_slice ht h with ⟨rfl,rfl⟩ | ⟨a,len,cap,m,n,D,Pl,rfl,_,hl,hm,hmm,rfl,hx⟩
 · exact ⟨[],_,rfl,.emp u none 0 (fun _=>rfl),fun _=>⟨by simp,by simp⟩⟩
 · have hlen:len≤m:=by rw [hmm]; split <;> omega
   letI:Inhabited u.den:=⟨u.dflt⟩
   obtain ⟨f,hf⟩:=Go.Deep.choose_lt (α:=u.den) (n:=len) (p:=fun i r=>(∃ cs,W.cells? base (a.add (i * u.size)) u.size=some cs∧All2 (PR (HW W)) (u.enc r) cs)∧(((D i).weights P e).all (·≤reachBytes)=true→Q r)) (fun i hi=>by
    obtain ⟨cs,h1,h2⟩:=hx i (by omega)
    obtain ⟨r,hr,hq⟩:=hel _ _ _ h2
    rw [hsz] at h1
    exact ⟨r,⟨cs,h1,hr⟩,hq⟩)
   have hfl:((List.range len).map f).length=len:=by simp
   refine ⟨(List.range len).map f,_,rfl,?_,?_⟩
   · rcases Nat.eq_zero_or_pos len with h0 | h0
     · subst h0
       exact .emp u (some a) cap (fun h=>by cases h)
     · have hs:a.spot=none:=by
        obtain ⟨cs,h1,h2⟩:=(hf 0 h0).1
        obtain ⟨_,hl,hc⟩:=World.cells?_some h1
        have h3:=hc 0 u.size_pos
        rw [Nat.zero_mul] at h3
        have h4:(0:Nat)<cs.length:=by rw [hl]; exact u.size_pos
        rw [List.getElem?_eq_getElem h4] at h3
        exact GT (a:=a) (by simpa [Addr.add] using h3)
       have hcell:∀ i,i<len→∀ j,j<u.size→∃ w cells e fr,W.heap[a.block]?=some (.cells cells e fr)∧cells[a.off+i * u.size+j]?=some w∧∀ p,(u.enc (f i))[j]?=some p→PR (HW W) p w:=by
        intro i hi j hj
        obtain ⟨cs,h1,h2⟩:=(hf i hi).1
        obtain ⟨_,hl,hc⟩:=World.cells?_some h1
        have h3:=hc j hj
        obtain ⟨w,hw⟩:∃ w,cs[j]?=some w:=⟨cs[j]'(by omega),List.getElem?_eq_getElem (by omega)⟩
        rw [hw] at h3
        have ha:(a.add (i * u.size)).add j=a.add (i * u.size+j):=by rw [Go.Deep.add_add]
        rw [ha] at h3
        obtain ⟨cells,e',fr,hb,h4⟩:=If hs rfl rfl h3
        refine ⟨w,cells,e',fr,hb,by rw [eM]; exact h4,fun p hp=>?_⟩
        obtain ⟨w',h5,h6⟩:=h2.get hp
        rw [hw,aa] at h5
        rw [h5]; exact h6
       obtain ⟨_,cells,e',fr,hb,_⟩:=hcell 0 h0 0 u.size_pos
       have hbound:a.off+len * u.size≤cells.size:=by
        obtain ⟨_,cells',e2,fr2,hb',h4,_⟩:=hcell (len - 1) (by omega) (u.size - 1) (by have:=u.size_pos; omega)
        rw [hb] at hb'
        simp only [aa,Obj.cells.injEq] at hb'
        obtain ⟨rfl,_,_⟩:=hb'
        have h5:=(Array.getElem?_eq_some_iff.1 h4).1
        have h6:len * u.size=(len - 1) * u.size+u.size:=by
         have:len=(len - 1)+1:=by omega
         rw [this,cb,Nat.one_mul]; simp
        have:=u.size_pos
        omega
       have key:PR (HW W) (.lst u ((List.range len).map f)) (.slice (some ⟨a.block,a.off,none⟩) ((List.range len).map f).length cap):=by
        refine .lst u _ a.block a.off cap cells e' fr hb (by rw [hfl]; exact hl) hm (by rw [hfl]; exact hbound) ?_
        intro i y hy j p hp w hw
        have hi:i<len:=by have:=(List.getElem?_eq_some_iff.1 hy).1; omega
        simp only [List.getElem?_map,List.getElem?_range hi,br,aa] at hy
        subst hy
        have hj:j<u.size:=by have:=(List.getElem?_eq_some_iff.1 hp).1; rw [u.enc_length] at this; exact this
        obtain ⟨w',cells',e2,fr2,hb',h4,h5⟩:=hcell i hi j hj
        rw [hb] at hb'
        simp only [aa,Obj.cells.injEq] at hb'
        obtain ⟨rfl,_,_⟩:=hb'
        rw [hw,aa] at h4
        rw [h4]; exact h5 p hp
       rw [hfl] at key
       obtain ⟨b,off,sp⟩:=a
       simp only at hs
       subst hs
       exact key
   · intro hw
     simp only [DataW.weights,ht,dt,bt,ae,decide_eq_true_eq,aL,eG] at hw ⊢
     refine ⟨fun r hr=>?_,aw (bQ _ (by omega)) hw.1⟩
     obtain ⟨i,hi,rfl⟩:=aV.1 hr
     exact (hf i (bq.1 hi)).2 (oz hw.2.1 _ (aV.2 ⟨i,hi,rfl⟩))
end
abbrev iF:Nat:=140737488355328
def EW (_:Str):Prop:=True
def n6 (_:Cell):Prop:=True
def Jy (_:Val):Prop:=True
def yl (_:Var):Prop:=True
def kv (r:Deed):Prop:=(r.expr.length * 32≤iF∧∀ x∈r.expr,n6 x)
def tf (r:Ev.Stat):Prop:=(r.entry.length * 48≤iF∧∀ x∈r.entry,kv x)∧(r.leave.length * 48≤iF∧∀ x∈r.leave,kv x)
def tE (r:Tran):Prop:=(r.guard.length * 32≤iF∧∀ x∈r.guard,n6 x)∧(r.acts.length * 48≤iF∧∀ x∈r.acts,kv x)
def ll (r:Chart):Prop:=(r.events.length * 16≤iF∧∀ x∈r.events,EW x)∧(r.vars.length * 64≤iF∧∀ x∈r.vars,yl x)∧(r.states.length * 96≤iF∧∀ x∈r.states,tf x)∧(r.trans.length * 88≤iF∧∀ x∈r.trans,tE x)
section
variable {Hh:Type} {enc:TypeId×Value→Hh} {W:World} {base:Nat} {spare:Nat→Bool} {held:Bool}
theorem jB {t:TypeId} (ht:Tryz.prog.underlying t=some .string) {fuel:Nat} {cs:List Value} {y:DataW Hh×List MemPlace} (h:DataW.trod enc Tryz.prog W base spare held fuel t cs=some y):∃ s:Str,cs=[.string (bs s)]:=by
 obtain ⟨s,h1,_⟩:=DataW.trod_string ht h
 exact ⟨s.data.toList,by rw [h1,jQ]⟩
theorem gH {t:TypeId} (ht:Tryz.prog.underlying t=some (.int .i64)) {fuel:Nat} {cs:List Value} {y:DataW Hh×List MemPlace} (h:DataW.trod enc Tryz.prog W base spare held fuel t cs=some y):∃ n,cs=[.int .i64 n]:=by
 obtain ⟨n,h1,_⟩:=DataW.trod_int ht h
 exact ⟨n,h1⟩
theorem JW (n:Nat) (cs:List Value) (y:DataW Hh×List MemPlace) (h:DataW.trod enc Tryz.prog W base spare held n 9 cs=some y):∃ s:Str,All2 (PR (HW W)) (ETy.str.enc s) cs∧((y.1.weights Tryz.prog 9).all (·≤reachBytes)=true→EW s):=by
 obtain ⟨s,h1⟩:=jB Tryz.underlying9 h
 exact ⟨s,by rw [h1]; exact .cons (.str s) .nil,fun _=>trivial⟩
theorem C0 (n:Nat) (cs:List Value) (y:DataW Hh×List MemPlace) (h:DataW.trod enc Tryz.prog W base spare held n 199 cs=some y):∃ r:Cell,All2 (PR (HW W)) (ETy.cell.enc r) cs∧((y.1.weights Tryz.prog 199).all (·≤reachBytes)=true→n6 r):=by
 obtain ⟨xs,m,_,hy,hl,hlen,hf⟩:=DataW.trod_struct Tryz.underlying199 h
 have lx:xs.length=3:=hlen
 match xs,lx with
 | [y0,y1,y2],_ =>
 have c0:Tryz.prog.cellsOf 199=3:=by kernel_rfl
 rw [c0] at hl
 have g0:DataW.trod enc Tryz.prog W base spare held m 3 (List.take (Tryz.prog.cellsOf 3) (List.drop 0 cs))=some y0:=hf 0 _ rfl
 have e0:Tryz.prog.cellsOf 3=1:=by kernel_rfl
 rw [e0] at g0
 obtain ⟨v0,h0⟩:=gH Tryz.underlying3 g0
 have g1:DataW.trod enc Tryz.prog W base spare held m 2 (List.take (Tryz.prog.cellsOf 2) (List.drop 1 cs))=some y1:=hf 1 _ rfl
 have e1:Tryz.prog.cellsOf 2=1:=by kernel_rfl
 rw [e1] at g1
 obtain ⟨v1,h1⟩:=gH Tryz.underlying2 g1
 have g2:DataW.trod enc Tryz.prog W base spare held m 9 (List.take (Tryz.prog.cellsOf 9) (List.drop 2 cs))=some y2:=hf 2 _ rfl
 have e2:Tryz.prog.cellsOf 9=1:=by kernel_rfl
 rw [e2] at g2
 obtain ⟨v2,h2⟩:=jB Tryz.underlying9 g2
 have hq:(y.1.weights Tryz.prog 199).all (·≤reachBytes)=true→n6 ⟨v0,v1,v2⟩:=by
  intro hw
  exact trivial
 match cs,hl with
 | [u0,u1,u2],_ =>
   simp at h0 h1 h2
   subst h0
   subst h1
   subst h2
   exact ⟨⟨v0,v1,v2⟩,.cons (.int _ v0) (.cons (.int _ v1) (.cons (.str v2) (.nil))),hq⟩
theorem JG (n:Nat) (cs:List Value) (y:DataW Hh×List MemPlace) (h:DataW.trod enc Tryz.prog W base spare held n 80 cs=some y):∃ r:Val,All2 (PR (HW W)) (ETy.val.enc r) cs∧((y.1.weights Tryz.prog 80).all (·≤reachBytes)=true→Jy r):=by
 obtain ⟨xs,m,_,hy,hl,hlen,hf⟩:=DataW.trod_struct Tryz.underlying80 h
 have lx:xs.length=3:=hlen
 match xs,lx with
 | [y0,y1,y2],_ =>
 have c0:Tryz.prog.cellsOf 80=3:=by kernel_rfl
 rw [c0] at hl
 have g0:DataW.trod enc Tryz.prog W base spare held m 3 (List.take (Tryz.prog.cellsOf 3) (List.drop 0 cs))=some y0:=hf 0 _ rfl
 have e0:Tryz.prog.cellsOf 3=1:=by kernel_rfl
 rw [e0] at g0
 obtain ⟨v0,h0⟩:=gH Tryz.underlying3 g0
 have g1:DataW.trod enc Tryz.prog W base spare held m 2 (List.take (Tryz.prog.cellsOf 2) (List.drop 1 cs))=some y1:=hf 1 _ rfl
 have e1:Tryz.prog.cellsOf 2=1:=by kernel_rfl
 rw [e1] at g1
 obtain ⟨v1,h1⟩:=gH Tryz.underlying2 g1
 have g2:DataW.trod enc Tryz.prog W base spare held m 2 (List.take (Tryz.prog.cellsOf 2) (List.drop 2 cs))=some y2:=hf 2 _ rfl
 have e2:Tryz.prog.cellsOf 2=1:=by kernel_rfl
 rw [e2] at g2
 obtain ⟨v2,h2⟩:=gH Tryz.underlying2 g2
 have hq:(y.1.weights Tryz.prog 80).all (·≤reachBytes)=true→Jy ⟨v0,v1,v2⟩:=by
  intro hw
  exact trivial
 match cs,hl with
 | [u0,u1,u2],_ =>
   simp at h0 h1 h2
   subst h0
   subst h1
   subst h2
   exact ⟨⟨v0,v1,v2⟩,.cons (.int _ v0) (.cons (.int _ v1) (.cons (.int _ v2) (.nil))),hq⟩
theorem JD (n:Nat) (cs:List Value) (y:DataW Hh×List MemPlace) (h:DataW.trod enc Tryz.prog W base spare held n 82 cs=some y):∃ r:Var,All2 (PR (HW W)) (ETy.var.enc r) cs∧((y.1.weights Tryz.prog 82).all (·≤reachBytes)=true→yl r):=by
 obtain ⟨xs,m,_,hy,hl,hlen,hf⟩:=DataW.trod_struct Tryz.underlying82 h
 have lx:xs.length=5:=hlen
 match xs,lx with
 | [y0,y1,y2,y3,y4],_ =>
 have c0:Tryz.prog.cellsOf 82=7:=by kernel_rfl
 rw [c0] at hl
 have g0:DataW.trod enc Tryz.prog W base spare held m 9 (List.take (Tryz.prog.cellsOf 9) (List.drop 0 cs))=some y0:=hf 0 _ rfl
 have e0:Tryz.prog.cellsOf 9=1:=by kernel_rfl
 rw [e0] at g0
 obtain ⟨v0,h0⟩:=jB Tryz.underlying9 g0
 have g1:DataW.trod enc Tryz.prog W base spare held m 3 (List.take (Tryz.prog.cellsOf 3) (List.drop 1 cs))=some y1:=hf 1 _ rfl
 have e1:Tryz.prog.cellsOf 3=1:=by kernel_rfl
 rw [e1] at g1
 obtain ⟨v1,h1⟩:=gH Tryz.underlying3 g1
 have g2:DataW.trod enc Tryz.prog W base spare held m 2 (List.take (Tryz.prog.cellsOf 2) (List.drop 2 cs))=some y2:=hf 2 _ rfl
 have e2:Tryz.prog.cellsOf 2=1:=by kernel_rfl
 rw [e2] at g2
 obtain ⟨v2,h2⟩:=gH Tryz.underlying2 g2
 have g3:DataW.trod enc Tryz.prog W base spare held m 2 (List.take (Tryz.prog.cellsOf 2) (List.drop 3 cs))=some y3:=hf 3 _ rfl
 have e3:Tryz.prog.cellsOf 2=1:=by kernel_rfl
 rw [e3] at g3
 obtain ⟨v3,h3⟩:=gH Tryz.underlying2 g3
 have g4:DataW.trod enc Tryz.prog W base spare held m 80 (List.take (Tryz.prog.cellsOf 80) (List.drop 4 cs))=some y4:=hf 4 _ rfl
 have e4:Tryz.prog.cellsOf 80=3:=by kernel_rfl
 rw [e4] at g4
 obtain ⟨v4,h4,_⟩:=JG _ _ _ g4
 have hq:(y.1.weights Tryz.prog 82).all (·≤reachBytes)=true→yl ⟨v0,v1,v2,v3,v4⟩:=by
  intro hw
  exact trivial
 match cs,hl with
 | [u0,u1,u2,u3,u4,u5,u6],_ =>
   simp at h0 h1 h2 h3 h4
   subst h0
   subst h1
   subst h2
   subst h3
   exact ⟨⟨v0,v1,v2,v3,v4⟩,.cons (.str v0) (.cons (.int _ v1) (.cons (.int _ v2) (.cons (.int _ v3) (h4)))),hq⟩
theorem v7 (n:Nat) (cs:List Value) (y:DataW Hh×List MemPlace) (h:DataW.trod enc Tryz.prog W base spare held n 118 cs=some y):∃ r:Deed,All2 (PR (HW W)) (ETy.deed.enc r) cs∧((y.1.weights Tryz.prog 118).all (·≤reachBytes)=true→kv r):=by
 obtain ⟨xs,m,_,hy,hl,hlen,hf⟩:=DataW.trod_struct Tryz.underlying118 h
 have lx:xs.length=3:=hlen
 match xs,lx with
 | [y0,y1,y2],_ =>
 have c0:Tryz.prog.cellsOf 118=3:=by kernel_rfl
 rw [c0] at hl
 have g0:DataW.trod enc Tryz.prog W base spare held m 3 (List.take (Tryz.prog.cellsOf 3) (List.drop 0 cs))=some y0:=hf 0 _ rfl
 have e0:Tryz.prog.cellsOf 3=1:=by kernel_rfl
 rw [e0] at g0
 obtain ⟨v0,h0⟩:=gH Tryz.underlying3 g0
 have g1:DataW.trod enc Tryz.prog W base spare held m 9 (List.take (Tryz.prog.cellsOf 9) (List.drop 1 cs))=some y1:=hf 1 _ rfl
 have e1:Tryz.prog.cellsOf 9=1:=by kernel_rfl
 rw [e1] at g1
 obtain ⟨v1,h1⟩:=jB Tryz.underlying9 g1
 have g2:DataW.trod enc Tryz.prog W base spare held m 116 (List.take (Tryz.prog.cellsOf 116) (List.drop 2 cs))=some y2:=hf 2 _ rfl
 have e2:Tryz.prog.cellsOf 116=1:=by kernel_rfl
 rw [e2] at g2
 obtain ⟨v2,w2,h2,p2,q2⟩:=eE .cell (Q:=n6) Tryz.underlying116 (by kernel_rfl) C0 g2
 have hq:(y.1.weights Tryz.prog 118).all (·≤reachBytes)=true→kv ⟨v0,v1,v2⟩:=by
  intro hw
  rw [hy] at hw
  have hw2:(y0.1.weights Tryz.prog 3++(y1.1.weights Tryz.prog 9++(y2.1.weights Tryz.prog 116++[]))).all (·≤reachBytes)=true:=by
   simpa [DataW.weights,Tryz.underlying118,DataW.weightsEach] using hw
  simp only [bt,aM,ae] at hw2
  obtain ⟨z0,z1,z2⟩:=hw2
  have x2:=q2 z2
  rw [show Tryz.prog.bytesOf 199=32 by kernel_rfl] at x2
  have k2:=x2.2
  unfold reachBytes at k2
  exact ⟨show v2.length * 32≤140737488355328 by omega,x2.1⟩
 match cs,hl with
 | [u0,u1,u2],_ =>
   simp at h0 h1 h2
   subst h0
   subst h1
   subst h2
   exact ⟨⟨v0,v1,v2⟩,.cons (.int _ v0) (.cons (.str v1) (.cons p2 (.nil))),hq⟩
theorem Jd (n:Nat) (cs:List Value) (y:DataW Hh×List MemPlace) (h:DataW.trod enc Tryz.prog W base spare held n 42 cs=some y):∃ r:Ev.Stat,All2 (PR (HW W)) (ETy.stat.enc r) cs∧((y.1.weights Tryz.prog 42).all (·≤reachBytes)=true→tf r):=by
 obtain ⟨xs,m,_,hy,hl,hlen,hf⟩:=DataW.trod_struct Tryz.underlying42 h
 have lx:xs.length=6:=hlen
 match xs,lx with
 | [y0,y1,y2,y3,y4,y5],_ =>
 have c0:Tryz.prog.cellsOf 42=6:=by kernel_rfl
 rw [c0] at hl
 have g0:DataW.trod enc Tryz.prog W base spare held m 9 (List.take (Tryz.prog.cellsOf 9) (List.drop 0 cs))=some y0:=hf 0 _ rfl
 have e0:Tryz.prog.cellsOf 9=1:=by kernel_rfl
 rw [e0] at g0
 obtain ⟨v0,h0⟩:=jB Tryz.underlying9 g0
 have g1:DataW.trod enc Tryz.prog W base spare held m 3 (List.take (Tryz.prog.cellsOf 3) (List.drop 1 cs))=some y1:=hf 1 _ rfl
 have e1:Tryz.prog.cellsOf 3=1:=by kernel_rfl
 rw [e1] at g1
 obtain ⟨v1,h1⟩:=gH Tryz.underlying3 g1
 have g2:DataW.trod enc Tryz.prog W base spare held m 3 (List.take (Tryz.prog.cellsOf 3) (List.drop 2 cs))=some y2:=hf 2 _ rfl
 have e2:Tryz.prog.cellsOf 3=1:=by kernel_rfl
 rw [e2] at g2
 obtain ⟨v2,h2⟩:=gH Tryz.underlying3 g2
 have g3:DataW.trod enc Tryz.prog W base spare held m 9 (List.take (Tryz.prog.cellsOf 9) (List.drop 3 cs))=some y3:=hf 3 _ rfl
 have e3:Tryz.prog.cellsOf 9=1:=by kernel_rfl
 rw [e3] at g3
 obtain ⟨v3,h3⟩:=jB Tryz.underlying9 g3
 have g4:DataW.trod enc Tryz.prog W base spare held m 40 (List.take (Tryz.prog.cellsOf 40) (List.drop 4 cs))=some y4:=hf 4 _ rfl
 have e4:Tryz.prog.cellsOf 40=1:=by kernel_rfl
 rw [e4] at g4
 obtain ⟨v4,w4,h4,p4,q4⟩:=eE .deed (Q:=kv) Tryz.underlying40 (by kernel_rfl) v7 g4
 have g5:DataW.trod enc Tryz.prog W base spare held m 40 (List.take (Tryz.prog.cellsOf 40) (List.drop 5 cs))=some y5:=hf 5 _ rfl
 have e5:Tryz.prog.cellsOf 40=1:=by kernel_rfl
 rw [e5] at g5
 obtain ⟨v5,w5,h5,p5,q5⟩:=eE .deed (Q:=kv) Tryz.underlying40 (by kernel_rfl) v7 g5
 have hq:(y.1.weights Tryz.prog 42).all (·≤reachBytes)=true→tf ⟨v0,v1,v2,v3,v4,v5⟩:=by
  intro hw
  rw [hy] at hw
  have hw2:(y0.1.weights Tryz.prog 9++(y1.1.weights Tryz.prog 3++(y2.1.weights Tryz.prog 3++(y3.1.weights Tryz.prog 9++(y4.1.weights Tryz.prog 40++(y5.1.weights Tryz.prog 40++[])))))).all (·≤reachBytes)=true:=by
   simpa [DataW.weights,Tryz.underlying42,DataW.weightsEach] using hw
  simp only [bt,aM,ae] at hw2
  obtain ⟨z0,z1,z2,z3,z4,z5⟩:=hw2
  have x4:=q4 z4
  rw [show Tryz.prog.bytesOf 118=48 by kernel_rfl] at x4
  have k4:=x4.2
  unfold reachBytes at k4
  have x5:=q5 z5
  rw [show Tryz.prog.bytesOf 118=48 by kernel_rfl] at x5
  have k5:=x5.2
  unfold reachBytes at k5
  exact ⟨⟨show v4.length * 48≤140737488355328 by omega,x4.1⟩,⟨show v5.length * 48≤140737488355328 by omega,x5.1⟩⟩
 match cs,hl with
 | [u0,u1,u2,u3,u4,u5],_ =>
   simp at h0 h1 h2 h3 h4 h5
   subst h0
   subst h1
   subst h2
   subst h3
   subst h4
   subst h5
   exact ⟨⟨v0,v1,v2,v3,v4,v5⟩,.cons (.str v0) (.cons (.int _ v1) (.cons (.int _ v2) (.cons (.str v3) (.cons p4 (.cons p5 (.nil)))))),hq⟩
theorem I2 (n:Nat) (cs:List Value) (y:DataW Hh×List MemPlace) (h:DataW.trod enc Tryz.prog W base spare held n 123 cs=some y):∃ r:Tran,All2 (PR (HW W)) (ETy.tran.enc r) cs∧((y.1.weights Tryz.prog 123).all (·≤reachBytes)=true→tE r):=by
 obtain ⟨xs,m,_,hy,hl,hlen,hf⟩:=DataW.trod_struct Tryz.underlying123 h
 have lx:xs.length=5:=hlen
 match xs,lx with
 | [y0,y1,y2,y3,y4],_ =>
 have c0:Tryz.prog.cellsOf 123=5:=by kernel_rfl
 rw [c0] at hl
 have g0:DataW.trod enc Tryz.prog W base spare held m 3 (List.take (Tryz.prog.cellsOf 3) (List.drop 0 cs))=some y0:=hf 0 _ rfl
 have e0:Tryz.prog.cellsOf 3=1:=by kernel_rfl
 rw [e0] at g0
 obtain ⟨v0,h0⟩:=gH Tryz.underlying3 g0
 have g1:DataW.trod enc Tryz.prog W base spare held m 9 (List.take (Tryz.prog.cellsOf 9) (List.drop 1 cs))=some y1:=hf 1 _ rfl
 have e1:Tryz.prog.cellsOf 9=1:=by kernel_rfl
 rw [e1] at g1
 obtain ⟨v1,h1⟩:=jB Tryz.underlying9 g1
 have g2:DataW.trod enc Tryz.prog W base spare held m 116 (List.take (Tryz.prog.cellsOf 116) (List.drop 2 cs))=some y2:=hf 2 _ rfl
 have e2:Tryz.prog.cellsOf 116=1:=by kernel_rfl
 rw [e2] at g2
 obtain ⟨v2,w2,h2,p2,q2⟩:=eE .cell (Q:=n6) Tryz.underlying116 (by kernel_rfl) C0 g2
 have g3:DataW.trod enc Tryz.prog W base spare held m 9 (List.take (Tryz.prog.cellsOf 9) (List.drop 3 cs))=some y3:=hf 3 _ rfl
 have e3:Tryz.prog.cellsOf 9=1:=by kernel_rfl
 rw [e3] at g3
 obtain ⟨v3,h3⟩:=jB Tryz.underlying9 g3
 have g4:DataW.trod enc Tryz.prog W base spare held m 40 (List.take (Tryz.prog.cellsOf 40) (List.drop 4 cs))=some y4:=hf 4 _ rfl
 have e4:Tryz.prog.cellsOf 40=1:=by kernel_rfl
 rw [e4] at g4
 obtain ⟨v4,w4,h4,p4,q4⟩:=eE .deed (Q:=kv) Tryz.underlying40 (by kernel_rfl) v7 g4
 have hq:(y.1.weights Tryz.prog 123).all (·≤reachBytes)=true→tE ⟨v0,v1,v2,v3,v4⟩:=by
  intro hw
  rw [hy] at hw
  have hw2:(y0.1.weights Tryz.prog 3++(y1.1.weights Tryz.prog 9++(y2.1.weights Tryz.prog 116++(y3.1.weights Tryz.prog 9++(y4.1.weights Tryz.prog 40++[]))))).all (·≤reachBytes)=true:=by
   simpa [DataW.weights,Tryz.underlying123,DataW.weightsEach] using hw
  simp only [bt,aM,ae] at hw2
  obtain ⟨z0,z1,z2,z3,z4⟩:=hw2
  have x2:=q2 z2
  rw [show Tryz.prog.bytesOf 199=32 by kernel_rfl] at x2
  have k2:=x2.2
  unfold reachBytes at k2
  have x4:=q4 z4
  rw [show Tryz.prog.bytesOf 118=48 by kernel_rfl] at x4
  have k4:=x4.2
  unfold reachBytes at k4
  exact ⟨⟨show v2.length * 32≤140737488355328 by omega,x2.1⟩,⟨show v4.length * 48≤140737488355328 by omega,x4.1⟩⟩
 match cs,hl with
 | [u0,u1,u2,u3,u4],_ =>
   simp at h0 h1 h2 h3 h4
   subst h0
   subst h1
   subst h2
   subst h3
   subst h4
   exact ⟨⟨v0,v1,v2,v3,v4⟩,.cons (.int _ v0) (.cons (.str v1) (.cons p2 (.cons (.str v3) (.cons p4 (.nil))))),hq⟩
theorem HL {cs:Array Value} (h:cs.size=5):∃ a b c d e,cs=#[a,b,c,d,e]:=by
 obtain ⟨l⟩:=cs
 match l,h with
 | [a,b,c,d,e],_=>exact ⟨a,b,c,d,e,rfl⟩
theorem rV {v:Value} {d:DataW Hh} {ps:List MemPlace} {b0:Nat} (h:DataW.Trod enc Tryz.prog W base spare held 27 v d ps) (hv:Value.okWide Tryz.prog W .any b0 27 v) :
 ∃ c:Chart,SX.R (VW W) (.e .chart c) v∧((d.weights Tryz.prog 27).all (·≤reachBytes)=true→ll c):=by
 simp only [Value.okWide,Tryz.underlying27] at hv
 obtain ⟨cs,rfl,hsz,ts,hts,_,hcs⟩:=hv
 have c26:Tryz.prog.cellsOf 27=5:=by kernel_rfl
 rw [c26] at hsz
 obtain ⟨s0,s1,s2,s3,s4,rfl⟩:=HL hsz
 obtain ⟨fuel,hf⟩:=h
 obtain ⟨xs,m,_,hx,hl,hlen,hf⟩:=DataW.trod_struct Tryz.underlying27 hf
 have lx:xs.length=5:=hlen
 match xs,lx with
 | [y0,y1,y2,y3,y4],_ =>
 simp only [ab] at hx
 have g0:DataW.trod enc Tryz.prog W base spare held m 9 (List.take (Tryz.prog.cellsOf 9) (List.drop 0 [s0,s1,s2,s3,s4]))=some y0:=hf 0 _ rfl
 have e0:Tryz.prog.cellsOf 9=1:=by kernel_rfl
 rw [e0] at g0
 obtain ⟨v0,h0⟩:=jB Tryz.underlying9 g0
 have g1:DataW.trod enc Tryz.prog W base spare held m 22 (List.take (Tryz.prog.cellsOf 22) (List.drop 1 [s0,s1,s2,s3,s4]))=some y1:=hf 1 _ rfl
 have e1:Tryz.prog.cellsOf 22=1:=by kernel_rfl
 rw [e1] at g1
 obtain ⟨v1,w1,h1,p1,q1⟩:=eE .str (Q:=EW) Tryz.underlying22 (by kernel_rfl) JW g1
 have g2:DataW.trod enc Tryz.prog W base spare held m 23 (List.take (Tryz.prog.cellsOf 23) (List.drop 2 [s0,s1,s2,s3,s4]))=some y2:=hf 2 _ rfl
 have e2:Tryz.prog.cellsOf 23=1:=by kernel_rfl
 rw [e2] at g2
 obtain ⟨v2,w2,h2,p2,q2⟩:=eE .var (Q:=yl) Tryz.underlying23 (by kernel_rfl) JD g2
 have g3:DataW.trod enc Tryz.prog W base spare held m 24 (List.take (Tryz.prog.cellsOf 24) (List.drop 3 [s0,s1,s2,s3,s4]))=some y3:=hf 3 _ rfl
 have e3:Tryz.prog.cellsOf 24=1:=by kernel_rfl
 rw [e3] at g3
 obtain ⟨v3,w3,h3,p3,q3⟩:=eE .stat (Q:=tf) Tryz.underlying24 (by kernel_rfl) Jd g3
 have g4:DataW.trod enc Tryz.prog W base spare held m 25 (List.take (Tryz.prog.cellsOf 25) (List.drop 4 [s0,s1,s2,s3,s4]))=some y4:=hf 4 _ rfl
 have e4:Tryz.prog.cellsOf 25=1:=by kernel_rfl
 rw [e4] at g4
 obtain ⟨v4,w4,h4,p4,q4⟩:=eE .tran (Q:=tE) Tryz.underlying25 (by kernel_rfl) I2 g4
 have hq:(d.weights Tryz.prog 27).all (·≤reachBytes)=true→ll ⟨v0,v1,v2,v3,v4⟩:=by
  intro hw
  rw [hx.1] at hw
  have hw2:(y0.1.weights Tryz.prog 9++(y1.1.weights Tryz.prog 22++(y2.1.weights Tryz.prog 23++(y3.1.weights Tryz.prog 24++(y4.1.weights Tryz.prog 25++[]))))).all (·≤reachBytes)=true:=by
   simpa [DataW.weights,Tryz.underlying27,DataW.weightsEach] using hw
  simp only [bt,aM,ae] at hw2
  obtain ⟨z0,z1,z2,z3,z4⟩:=hw2
  have x1:=q1 z1
  rw [show Tryz.prog.bytesOf 9=16 by kernel_rfl] at x1
  have k1:=x1.2
  unfold reachBytes at k1
  have x2:=q2 z2
  rw [show Tryz.prog.bytesOf 82=64 by kernel_rfl] at x2
  have k2:=x2.2
  unfold reachBytes at k2
  have x3:=q3 z3
  rw [show Tryz.prog.bytesOf 42=96 by kernel_rfl] at x3
  have k3:=x3.2
  unfold reachBytes at k3
  have x4:=q4 z4
  rw [show Tryz.prog.bytesOf 123=88 by kernel_rfl] at x4
  have k4:=x4.2
  unfold reachBytes at k4
  exact ⟨⟨show v1.length * 16≤140737488355328 by omega,x1.1⟩,⟨show v2.length * 64≤140737488355328 by omega,x2.1⟩,⟨show v3.length * 96≤140737488355328 by omega,x3.1⟩,⟨show v4.length * 88≤140737488355328 by omega,x4.1⟩⟩
 simp at h0 h1 h2 h3 h4
 subst h0; subst h1; subst h2; subst h3; subst h4
 exact ⟨⟨v0,v1,v2,v3,v4⟩,⟨[_,_,_,_,_],rfl,.cons (.str v0) (.cons p1 (.cons p2 (.cons p3 (.cons p4 (.nil)))))⟩,hq⟩
end
end Go.Proofs.YtcopfgbbjdefbaaGreatDoor
namespace Go.Proofs.YtcopfgbbjdefbaaGreatDoor
open Go Go.Ev
set_option maxRecDepth 100000
theorem xG {c:Chart} (h:ll c):c.vars.length≤2199023255552∧c.states.length≤1466015503701:=by
 obtain ⟨_,⟨h2,_⟩,⟨h3,_⟩,_⟩:=h
 have h2':c.vars.length * 64≤140737488355328:=h2
 have h3':c.states.length * 96≤140737488355328:=h3
 omega
theorem By {c:Chart} (h:ll c):∀ s∈c.states,s.entry.length≤4398046511104∧s.leave.length≤4398046511104:=by
 intro s hs
 obtain ⟨⟨h1,_⟩,⟨h2,_⟩⟩:=h.2.2.1.2 s hs
 have h1':s.entry.length * 48≤140737488355328:=h1
 have h2':s.leave.length * 48≤140737488355328:=h2
 omega
def C4:Cfg:=⟨bb,[gL,nO,lz,fX,ld]⟩
theorem Dz:af Tryz.prog C4.tab:=(af.cons ja (af.cons yn (af.cons pI (af.cons ix (af.cons nd af.nil)))))
def B5:Cfg:=⟨bb,[gL,lU,lI,fX,ld]⟩
theorem Dx:af Tryz.prog B5.tab:=(af.cons ja (af.cons wX (af.cons wH (af.cons ix (af.cons nd af.nil)))))
variable (c:Chart) (s:List Int)
theorem AR (i:Int) (h:ll c):ag Tryz.prog 6 [.e .chart c,.i i] [] (.x (.b true)) []:=by
 have hz:=xG h
 have hb:=By h
 by_cases hv:Valid c∧0≤i∧i<(c.states.length:Int)∧aQ (ETy.get .stat c.states i.toNat).kind=false
 · refine dg Dz Tryz.func6 (.ite false (.ret (.p (.bool false)) []) (.need (Valid c∧(0:Int)≤i∧i<(c.states.length:Int)∧aQ (Stat.kind (ETy.get .stat c.states (Int.toNat i)))=false) (.need (∀ (s:ETy.den .stat),s∈c.states→s.entry.length≤4398046511104∧s.leave.length≤4398046511104) (.ite (!bI c==(0:Int)) (.ret (.p (.bool false)) []) (.need (c.states.length≤1000∧(0:Int)≤i∧i<(c.states.length:Int)∧aQ (Stat.kind (ETy.get .stat c.states (Int.toNat i)))=false) (.ret (.p (.bool (cG c.states (Int.toNat i)==gV c.states i))) [])))))) fun Γ=>?_
   have hl:=(gR c).1 hv.1.few
   have hc:bI c=0:=(dH c).2 hv.1
   refine ⟨fun h0=>absurd h0 (by decide),fun _=>⟨hv,hb,fun h1=>?_,fun _=>⟨⟨by omega,hv.2⟩,?_,rfl⟩⟩⟩
   · exfalso
     have h1':(!bI c==0)=true:=h1
     rw [hc] at h1'; cases h1'
   · have e:=uT hv.1.tre (i:=i.toNat) (by omega)
     rw [dn hv.2.1] at e
     rw [e]; simp
 · refine dg Dx Tryz.func6 (.ite false (.ret (.p (.bool false)) []) (.need ((c.vars.length≤2199023255552∧c.states.length≤2199023255552)∧¬(Valid c∧(0:Int)≤i∧i<(c.states.length:Int)∧aQ (Stat.kind (ETy.get .stat c.states (Int.toNat i)))=false)) (.need (∀ (s:ETy.den .stat),s∈c.states→s.entry.length≤4398046511104∧s.leave.length≤4398046511104) (.ite (!bI c==(0:Int)) (.ret (.p (.bool true)) []) (.need (¬((0:Int)≤i∧i<(c.states.length:Int)∧aQ (Stat.kind (ETy.get .stat c.states (Int.toNat i)))=false)) (.ret (.p (.bool true)) [])))))) fun Γ=>?_
   refine ⟨fun h0=>absurd h0 (by decide),fun _=>⟨⟨⟨hz.1,by omega⟩,hv⟩,hb,fun _=>⟨rfl,rfl⟩,fun h1=>⟨fun h2=>?_,rfl,rfl⟩⟩⟩
   have h1':(!bI c==0)=false:=h1
   exact hv ⟨(dH c).1 (by simpa using h1'),h2⟩
/-! ### Start -/
theorem sV (l:List Int) (h:room l.length 8):ag Tryz.prog 15 [.l .int l] [] (.x (.c (.own 0))) [.own 3 .int l]:=by
 refine dg aT Tryz.func15 (.need (room (([]++l).length) 8) (.ret (.x (.c (.own 0))) [.own 3 .int ([]++l)])) fun Γ=>?_
 exact ⟨h,rfl,rfl⟩
def pQ:Ent:=(15,fun
 | [.c (.pd (.lst .int l))],[]=>some (some (room l.length 8),.x (.c (.own 0)),[.own 3 .int l])
 | _,_=>none)
theorem BI:EntOk Tryz.prog pQ:=entOk fun vs ck=>by
 unfold pQ; dsimp only; split
 · rename_i l; exact entS fun hp=>sV l hp
 · exact entN
theorem ya (a b:List Int) (h:a=b):ag Tryz.prog 12 [.l .int a,.l .int b] [] (.x (.b true)) []:=by
 have:=oI a b
 rw [show (a==b)=true from by rw [h]; simp] at this
 exact this
def qx:Ent:=(12,fun
 | [.c (.pd (.lst .int a)),.c (.pd (.lst .int b))],[]=>some (some (a=b),.x (.c (.pd (.bool true))),[])
 | _,_=>none)
theorem B3:EntOk Tryz.prog qx:=entOk fun vs ck=>by
 unfold qx; dsimp only; split
 · rename_i a b; exact entS fun hp=>ya a b hp
 · exact entN
theorem uw (h:Valid c∧cy c.states s=true):ag Tryz.prog 14 [.e .chart c,.l .int s] [] (.x (.b true)) []:=by
 have hl:=(gR c).1 h.1.few
 have:=kN c s ⟨by omega,by omega⟩
 rw [(dH c).2 h.1,h.2] at this
 exact this
def lJ:Ent:=(14,fun
 | [.agg [.pd (.str a),.pd (.lst .str b),.pd (.lst .var c),.pd (.lst .stat d),.pd (.lst .tran e)],.c (.pd (.lst .int s))],[]=>some (some (Valid ⟨a,b,c,d,e⟩∧cy d s=true),.x (.c (.pd (.bool true))),[])
 | _,_=>none)
theorem wA:EntOk Tryz.prog lJ:=entOk fun vs ck=>by
 unfold lJ; dsimp only; split
 · rename_i a b c d e s; exact entS fun hp=>uw ⟨a,b,c,d,e⟩ s hp
 · exact entN
theorem uJ (h:Tre c.states∧cy c.states s=true):ag Tryz.prog 16 [.e .chart c,.l .int s] [] (.x (.b true)) []:=by
 have:=w9 c s h.1
 rw [h.2] at this
 exact this
def lT:Ent:=(16,fun
 | [.agg [.pd (.str a),.pd (.lst .str b),.pd (.lst .var c),.pd (.lst .stat d),.pd (.lst .tran e)],.c (.pd (.lst .int s))],[]=>some (some (Tre d∧cy d s=true),.x (.c (.pd (.bool true))),[])
 | _,_=>none)
theorem wJ:EntOk Tryz.prog lT:=entOk fun vs ck=>by
 unfold lT; dsimp only; split
 · rename_i a b c d e s; exact entS fun hp=>uJ ⟨a,b,c,d,e⟩ s hp
 · exact entN
end Go.Proofs.YtcopfgbbjdefbaaGreatDoor
namespace Go.Proofs.YtcopfgbbjdefbaaGreatDoor
open Go Go.Ev Go.RowKit Go.ChangeShapes Go.WideShapes Go.ChangeAt
set_option maxRecDepth 100000
theorem GQ {Hh:Type} {enc:TypeId×Value→Hh} {W:World} {base:Nat} {spare:Nat→Bool} {held:Bool} {v:Value} {d:DataW Hh} {ps:List MemPlace} {b0:Nat} (h:DataW.Trod enc Tryz.prog W base spare held 3 v d ps) (hv:Value.okWide Tryz.prog W .any b0 3 v) :
 ∃ n:Int,SX.R (VW W) (.c (.pd (.int .i64 n))) v∧-9223372036854775808≤n∧n≤9223372036854775807:=by
 have hv':Cell.okWide Tryz.prog W .any b0 3 v:=by simpa only [Value.okWide,Tryz.underlying3] using hv
 obtain ⟨fuel,hf⟩:=h
 have hc:v.cells.toList=[v]:=by
  have hv2:=hv'
  simp only [Cell.okWide,Tryz.underlying3,Cell.ok] at hv2
  cases v <;> first | rfl | exact hv2.elim
 rw [hc] at hf
 obtain ⟨n,h1,_,h2⟩:=DataW.trod_int Tryz.underlying3 hf
 simp only [List.cons.injEq,and_true] at h1
 subst h1
 simp only [Lit.wf,ae,decide_eq_true_eq] at h2
 have e1:IntKind.i64.min = -9223372036854775808:=by decide
 have e2:IntKind.i64.max=9223372036854775807:=by decide
 rw [e1,e2] at h2
 exact ⟨n,.int _ n,h2.1,h2.2⟩
end Go.Proofs.YtcopfgbbjdefbaaGreatDoor
namespace Go.Proofs.YtcopfgbbjdefbaaGreatDoor
open Go Go.Ev
set_option maxRecDepth 100000
def vO:Cfg:=⟨bb,[ye,gL,nQ,n5,fX,qx,pQ,lJ,lT]⟩
theorem sg:af Tryz.prog vO.tab:=(af.cons xr (af.cons ja (af.cons AU (af.cons yG (af.cons ix (af.cons B3 (af.cons BI (af.cons wA (af.cons wJ af.nil)))))))))
def CF:Cfg:=⟨bb,[gL,l4,fX]⟩
theorem Db:af Tryz.prog CF.tab:=(af.cons ja (af.cons wF (af.cons ix af.nil)))
abbrev zCp1 (a:Chart):Chunk:=.cells [.pd (.str a.name),.pd (.lst .str a.events),.pd (.lst .var a.vars),.pd (.lst .stat a.states),.pd (.lst .tran a.trans)] 27
theorem BZ (c:Chart) (h:ll c):ag Tryz.prog 3 [.e .chart c] [] (.x (.b true)) []:=by
 have hz:=xG h
 have hb:=By h
 by_cases hv:Valid c
 · refine dg sg Tryz.func3 (.ite false (.ret (.p (.bool false)) []) (.need (Valid c) (.need (∀ (s:ETy.den .stat),s∈c.states→s.entry.length≤4398046511104∧s.leave.length≤4398046511104) (.ite (!bI c==(0:Int)) (.ret (.p (.bool ((↑((dq c.states).length):Int)==0))) []) (.stop [.code [1,1,1,1,0],.code [1,1,1,1,1]] { n:=29,fr:=[(1,.x (.c (.loc 0 0))),(2,.p (.bool false)),(3,.x (.c (.own 1)))],ck:=[zCp1 c,.own 3 .int (dq c.states)],kn:=[2] }))))) fun Γ=>?_
   have hc:bI c=0:=(dH c).2 hv
   have t:=hv.tre
   have hl:=mY t
   have hg:=(CM t.shp _).2 (xg t)
   refine ⟨fun h0=>absurd h0 (by decide),fun _=>⟨hv,hb,fun h1=>?_,fun _=>?_⟩⟩
   · exfalso
     have h1':(!bI c==0)=true:=h1
     rw [hc] at h1'; cases h1'
   · generalize hs:dq c.states=s at hl hg
     have rest:J Tryz.prog 3 (aA Tryz.f3) Γ (Eq2 (.x (.b true)) []) [.code [1,1,1,1,0],.code [1,1,1,1,1]] ({ n:=29,fr:=[(1,.x (.c (.loc 0 0))),(2,.p (.bool false)),(3,.p (.lst .int s))],ck:=[zCp1 c,.dead],kn:=[2] }):=by
      refine jg sg Tryz.func3 (.need (Tre c.states) (.need (s=dq c.states) (.need (room s.length 8) (.need (Valid c∧cy c.states s=true) (.need (Tre c.states∧cy c.states s=true) (.ret (.p (.bool true)) [])))))) ?_
      exact ⟨t,hs.symm,⟨by omega,by unfold maxLen; omega⟩,⟨hv,hg⟩,⟨t,hg⟩,rfl,rfl⟩
     exact J.freeze bb [1] (by kernel_rfl) rest
 · refine dg Db Tryz.func3 (.ite false (.ret (.p (.bool false)) []) (.need ((c.vars.length≤2199023255552∧c.states.length≤2199023255552)∧¬Valid c) (.need (∀ (s:ETy.den .stat),s∈c.states→s.entry.length≤4398046511104∧s.leave.length≤4398046511104) (.ite (!bI c==(0:Int)) (.ret (.p (.bool true)) []) (.stop [.code [1,1,1,1,0],.code [1,1,1,1,1]] { n:=29,fr:=[(1,.x (.c (.loc 0 0))),(2,.p (.bool false)),(3,.p (.v (Value.slice none 0 0)))],ck:=[zCp1 c],kn:=[2] }))))) fun Γ=>?_
   refine ⟨fun h0=>absurd h0 (by decide),fun _=>⟨⟨⟨hz.1,by omega⟩,hv⟩,hb,fun _=>⟨rfl,rfl⟩,fun h1=>?_⟩⟩
   exfalso
   have h1':(!bI c==0)=false:=h1
   exact hv ((dH c).1 (by simpa using h1'))
end Go.Proofs.YtcopfgbbjdefbaaGreatDoor
