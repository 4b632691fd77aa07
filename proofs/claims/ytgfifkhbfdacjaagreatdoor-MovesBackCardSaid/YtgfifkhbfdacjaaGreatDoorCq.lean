/- The laws' arguments: charts, opened; their sizes by the row's weights. Conditions: none. Contracts: the laws ConfBegins, ConfStart. Conditions: sizes. Contracts: the document's Some. Conditions: sizes. -/
import Derived.Test.YtgfifkhbfdacjaaGreatDoorLx
import Derived.Test.YtgfifkhbfdacjaaGreatDoorKb
import Derived.Test.YtgfifkhbfdacjaaGreatDoorCe
namespace Go.Proofs.YtgfifkhbfdacjaaGreatDoor
open Go Go.Ev Go.RowKit Go.ChangeShapes Go.WideShapes Go.ChangeAt
set_option maxRecDepth 100000
theorem K1 {W:World} {a:Addr} {u:Value} (h:W.cell? a=some u):a.spot=none:=by
 unfold World.cell? at h
 split at h
 · split at h
   · cases h
   · rename_i hn; simpa using hn
 · cases h
theorem pt {H:Type} {P:Program} {e:TypeId} {p:Nat→Bool}:∀ {l:List (DataW H)},(DataW.weightsAll P e l).all p=true→∀ d∈l,(d.weights P e).all p=true
 | [],_,d,hd=>by cases hd
 | x::r,h,d,hd=>by
   simp only [DataW.weightsAll,bG,af] at h
   rcases aJ.1 hd with rfl | hd
   · exact h.1
   · exact pt h.2 d hd
section
variable {Hh:Type} {enc:TypeId×Value→Hh} {P:Program} {W:World} {base:Nat} {spare:Nat→Bool} {held:Bool}
theorem e9 (u:ETy) {Q:u.den→Prop} {t e:TypeId} {fuel:Nat} {cs:List Value} {x:DataW Hh×List MemPlace} (ht:P.underlying t=some (.slice e)) (hsz:P.cellsOf e=u.size)
 (hel:∀ n cs y,DataW.trod enc P W base spare held n e cs=some y→∃ r,All2 (PR (HW W)) (u.enc r) cs∧((y.1.weights P e).all (·≤reachBytes)=true→Q r)) (h:DataW.trod enc P W base spare held fuel t cs=some x) :
 ∃ (l:List u.den) (v:Value),cs=[v]∧PR (HW W) (.lst u l) v∧((x.1.weights P t).all (·≤reachBytes)=true→(∀ r∈l,Q r)∧l.length * P.bytesOf e≤reachBytes):=by
 rcases Go.Deep.open_slice ht h with ⟨rfl,rfl⟩ | ⟨a,len,cap,m,n,D,Pl,rfl,_,hl,hm,hmm,rfl,hx⟩
 · exact ⟨[],_,rfl,.emp u none 0 (fun _=>rfl),fun _=>⟨by simp,by simp⟩⟩
 · have hlen:len≤m:=by rw [hmm]; split <;> omega
   letI:Inhabited u.den:=⟨u.dflt⟩
   obtain ⟨f,hf⟩:=Go.Deep.choose_lt (α:=u.den) (n:=len) (p:=fun i r=>(∃ cs,W.cells? base (a.add (i * u.size)) u.size=some cs∧All2 (PR (HW W)) (u.enc r) cs)∧(((D i).weights P e).all (·≤reachBytes)=true→Q r)) (fun i hi=>by
    obtain ⟨cs,h1,h2⟩:=hx i (by omega)
    obtain ⟨r,hr,hq⟩:=hel _ _ _ h2
    rw [hsz] at h1
    exact ⟨r,⟨cs,h1,hr⟩,hq⟩)
   have hfl:((List.range len).map f).length=len:=by simp
   refine ⟨(List.range len).map f,_,rfl,?_,?_⟩
   · rcases Nat.eq_zero_or_pos len with h0 | h0
     · subst h0
       exact .emp u (some a) cap (fun h=>by cases h)
     · have hs:a.spot=none:=by
        obtain ⟨cs,h1,h2⟩:=(hf 0 h0).1
        obtain ⟨_,hl,hc⟩:=World.cells?_some h1
        have h3:=hc 0 u.size_pos
        rw [Nat.zero_mul] at h3
        have h4:(0:Nat)<cs.length:=by rw [hl]; exact u.size_pos
        rw [List.getElem?_eq_getElem h4] at h3
        exact K1 (a:=a) (by simpa [Addr.add] using h3)
       have hcell:∀ i,i<len→∀ j,j<u.size→∃ w cells e fr,W.heap[a.block]?=some (.cells cells e fr)∧cells[a.off+i * u.size+j]?=some w∧∀ p,(u.enc (f i))[j]?=some p→PR (HW W) p w:=by
        intro i hi j hj
        obtain ⟨cs,h1,h2⟩:=(hf i hi).1
        obtain ⟨_,hl,hc⟩:=World.cells?_some h1
        have h3:=hc j hj
        obtain ⟨w,hw⟩:∃ w,cs[j]?=some w:=⟨cs[j]'(by omega),List.getElem?_eq_getElem (by omega)⟩
        rw [hw] at h3
        have ha:(a.add (i * u.size)).add j=a.add (i * u.size+j):=by rw [Go.Deep.add_add]
        rw [ha] at h3
        obtain ⟨cells,e',fr,hb,h4⟩:=Aq hs rfl rfl h3
        refine ⟨w,cells,e',fr,hb,by rw [dX]; exact h4,fun p hp=>?_⟩
        obtain ⟨w',h5,h6⟩:=h2.get hp
        rw [hw,aa] at h5
        rw [h5]; exact h6
       obtain ⟨_,cells,e',fr,hb,_⟩:=hcell 0 h0 0 u.size_pos
       have hbound:a.off+len * u.size≤cells.size:=by
        obtain ⟨_,cells',e2,fr2,hb',h4,_⟩:=hcell (len - 1) (by omega) (u.size - 1) (by have:=u.size_pos; omega)
        rw [hb] at hb'
        simp only [aa,Obj.cells.injEq] at hb'
        obtain ⟨rfl,_,_⟩:=hb'
        have h5:=(Array.getElem?_eq_some_iff.1 h4).1
        have h6:len * u.size=(len - 1) * u.size+u.size:=by
         have:len=(len - 1)+1:=by omega
         rw [this,cc,Nat.one_mul]; simp
        have:=u.size_pos
        omega
       have key:PR (HW W) (.lst u ((List.range len).map f)) (.slice (some ⟨a.block,a.off,none⟩) ((List.range len).map f).length cap):=by
        refine .lst u _ a.block a.off cap cells e' fr hb (by rw [hfl]; exact hl) hm (by rw [hfl]; exact hbound) ?_
        intro i y hy j p hp w hw
        have hi:i<len:=by have:=(List.getElem?_eq_some_iff.1 hy).1; omega
        simp only [List.getElem?_map,List.getElem?_range hi,bF,aa] at hy
        subst hy
        have hj:j<u.size:=by have:=(List.getElem?_eq_some_iff.1 hp).1; rw [u.enc_length] at this; exact this
        obtain ⟨w',cells',e2,fr2,hb',h4,h5⟩:=hcell i hi j hj
        rw [hb] at hb'
        simp only [aa,Obj.cells.injEq] at hb'
        obtain ⟨rfl,_,_⟩:=hb'
        rw [hw,aa] at h4
        rw [h4]; exact h5 p hp
       rw [hfl] at key
       obtain ⟨b,off,sp⟩:=a
       simp only at hs
       subst hs
       exact key
   · intro hw
     simp only [DataW.weights,ht,da,bG,af,decide_eq_true_eq,aN,dE] at hw ⊢
     refine ⟨fun r hr=>?_,av (bM _ (by omega)) hw.1⟩
     obtain ⟨i,hi,rfl⟩:=aT.1 hr
     exact (hf i (bz.1 hi)).2 (pt hw.2.1 _ (aT.2 ⟨i,hi,rfl⟩))
end
abbrev iQ:Nat:=140737488355328
def GJ (_:Str):Prop:=True
def pb (_:Cell):Prop:=True
def Lo (_:Val):Prop:=True
def By (_:Var):Prop:=True
def lv (r:Deed):Prop:=(r.expr.length * 32≤iQ∧∀ x∈r.expr,pb x)
def u7 (r:Ev.Stat):Prop:=(r.entry.length * 48≤iQ∧∀ x∈r.entry,lv x)∧(r.leave.length * 48≤iQ∧∀ x∈r.leave,lv x)
def vg (r:Tran):Prop:=(r.guard.length * 32≤iQ∧∀ x∈r.guard,pb x)∧(r.acts.length * 48≤iQ∧∀ x∈r.acts,lv x)
def ot (r:Chart):Prop:=(r.events.length * 16≤iQ∧∀ x∈r.events,GJ x)∧(r.vars.length * 64≤iQ∧∀ x∈r.vars,By x)∧(r.states.length * 96≤iQ∧∀ x∈r.states,u7 x)∧(r.trans.length * 88≤iQ∧∀ x∈r.trans,vg x)
section
variable {Hh:Type} {enc:TypeId×Value→Hh} {W:World} {base:Nat} {spare:Nat→Bool} {held:Bool}
theorem kb {t:TypeId} (ht:Tryz.prog.underlying t=some .string) {fuel:Nat} {cs:List Value} {y:DataW Hh×List MemPlace} (h:DataW.trod enc Tryz.prog W base spare held fuel t cs=some y):∃ s:Str,cs=[.string (bs s)]:=by
 obtain ⟨s,h1,_⟩:=DataW.trod_string ht h
 exact ⟨s.data.toList,by rw [h1,kL]⟩
theorem ic {t:TypeId} (ht:Tryz.prog.underlying t=some (.int .i64)) {fuel:Nat} {cs:List Value} {y:DataW Hh×List MemPlace} (h:DataW.trod enc Tryz.prog W base spare held fuel t cs=some y):∃ n,cs=[.int .i64 n]:=by
 obtain ⟨n,h1,_⟩:=DataW.trod_int ht h
 exact ⟨n,h1⟩
theorem MG (n:Nat) (cs:List Value) (y:DataW Hh×List MemPlace) (h:DataW.trod enc Tryz.prog W base spare held n 9 cs=some y):∃ s:Str,All2 (PR (HW W)) (ETy.str.enc s) cs∧((y.1.weights Tryz.prog 9).all (·≤reachBytes)=true→GJ s):=by
 obtain ⟨s,h1⟩:=kb Tryz.underlying9 h
 exact ⟨s,by rw [h1]; exact .cons (.str s) .nil,fun _=>trivial⟩
theorem C6 (n:Nat) (cs:List Value) (y:DataW Hh×List MemPlace) (h:DataW.trod enc Tryz.prog W base spare held n 187 cs=some y):∃ r:Cell,All2 (PR (HW W)) (ETy.cell.enc r) cs∧((y.1.weights Tryz.prog 187).all (·≤reachBytes)=true→pb r):=by
 obtain ⟨xs,m,_,hy,hl,hlen,hf⟩:=DataW.trod_struct Tryz.underlying187 h
 have lx:xs.length=3:=hlen
 match xs,lx with
 | [y0,y1,y2],_ =>
 have c0:Tryz.prog.cellsOf 187=3:=by kernel_rfl
 rw [c0] at hl
 have g0:DataW.trod enc Tryz.prog W base spare held m 3 (List.take (Tryz.prog.cellsOf 3) (List.drop 0 cs))=some y0:=hf 0 _ rfl
 have e0:Tryz.prog.cellsOf 3=1:=by kernel_rfl
 rw [e0] at g0
 obtain ⟨v0,h0⟩:=ic Tryz.underlying3 g0
 have g1:DataW.trod enc Tryz.prog W base spare held m 2 (List.take (Tryz.prog.cellsOf 2) (List.drop 1 cs))=some y1:=hf 1 _ rfl
 have e1:Tryz.prog.cellsOf 2=1:=by kernel_rfl
 rw [e1] at g1
 obtain ⟨v1,h1⟩:=ic Tryz.underlying2 g1
 have g2:DataW.trod enc Tryz.prog W base spare held m 9 (List.take (Tryz.prog.cellsOf 9) (List.drop 2 cs))=some y2:=hf 2 _ rfl
 have e2:Tryz.prog.cellsOf 9=1:=by kernel_rfl
 rw [e2] at g2
 obtain ⟨v2,h2⟩:=kb Tryz.underlying9 g2
 have hq:(y.1.weights Tryz.prog 187).all (·≤reachBytes)=true→pb ⟨v0,v1,v2⟩:=by
  intro hw
  exact trivial
 match cs,hl with
 | [u0,u1,u2],_ =>
   simp at h0 h1 h2
   subst h0
   subst h1
   subst h2
   exact ⟨⟨v0,v1,v2⟩,.cons (.int _ v0) (.cons (.int _ v1) (.cons (.str v2) (.nil))),hq⟩
theorem Mw (n:Nat) (cs:List Value) (y:DataW Hh×List MemPlace) (h:DataW.trod enc Tryz.prog W base spare held n 99 cs=some y):∃ r:Val,All2 (PR (HW W)) (ETy.val.enc r) cs∧((y.1.weights Tryz.prog 99).all (·≤reachBytes)=true→Lo r):=by
 obtain ⟨xs,m,_,hy,hl,hlen,hf⟩:=DataW.trod_struct Tryz.underlying99 h
 have lx:xs.length=3:=hlen
 match xs,lx with
 | [y0,y1,y2],_ =>
 have c0:Tryz.prog.cellsOf 99=3:=by kernel_rfl
 rw [c0] at hl
 have g0:DataW.trod enc Tryz.prog W base spare held m 3 (List.take (Tryz.prog.cellsOf 3) (List.drop 0 cs))=some y0:=hf 0 _ rfl
 have e0:Tryz.prog.cellsOf 3=1:=by kernel_rfl
 rw [e0] at g0
 obtain ⟨v0,h0⟩:=ic Tryz.underlying3 g0
 have g1:DataW.trod enc Tryz.prog W base spare held m 2 (List.take (Tryz.prog.cellsOf 2) (List.drop 1 cs))=some y1:=hf 1 _ rfl
 have e1:Tryz.prog.cellsOf 2=1:=by kernel_rfl
 rw [e1] at g1
 obtain ⟨v1,h1⟩:=ic Tryz.underlying2 g1
 have g2:DataW.trod enc Tryz.prog W base spare held m 2 (List.take (Tryz.prog.cellsOf 2) (List.drop 2 cs))=some y2:=hf 2 _ rfl
 have e2:Tryz.prog.cellsOf 2=1:=by kernel_rfl
 rw [e2] at g2
 obtain ⟨v2,h2⟩:=ic Tryz.underlying2 g2
 have hq:(y.1.weights Tryz.prog 99).all (·≤reachBytes)=true→Lo ⟨v0,v1,v2⟩:=by
  intro hw
  exact trivial
 match cs,hl with
 | [u0,u1,u2],_ =>
   simp at h0 h1 h2
   subst h0
   subst h1
   subst h2
   exact ⟨⟨v0,v1,v2⟩,.cons (.int _ v0) (.cons (.int _ v1) (.cons (.int _ v2) (.nil))),hq⟩
theorem MB (n:Nat) (cs:List Value) (y:DataW Hh×List MemPlace) (h:DataW.trod enc Tryz.prog W base spare held n 101 cs=some y):∃ r:Var,All2 (PR (HW W)) (ETy.var.enc r) cs∧((y.1.weights Tryz.prog 101).all (·≤reachBytes)=true→By r):=by
 obtain ⟨xs,m,_,hy,hl,hlen,hf⟩:=DataW.trod_struct Tryz.underlying101 h
 have lx:xs.length=5:=hlen
 match xs,lx with
 | [y0,y1,y2,y3,y4],_ =>
 have c0:Tryz.prog.cellsOf 101=7:=by kernel_rfl
 rw [c0] at hl
 have g0:DataW.trod enc Tryz.prog W base spare held m 9 (List.take (Tryz.prog.cellsOf 9) (List.drop 0 cs))=some y0:=hf 0 _ rfl
 have e0:Tryz.prog.cellsOf 9=1:=by kernel_rfl
 rw [e0] at g0
 obtain ⟨v0,h0⟩:=kb Tryz.underlying9 g0
 have g1:DataW.trod enc Tryz.prog W base spare held m 3 (List.take (Tryz.prog.cellsOf 3) (List.drop 1 cs))=some y1:=hf 1 _ rfl
 have e1:Tryz.prog.cellsOf 3=1:=by kernel_rfl
 rw [e1] at g1
 obtain ⟨v1,h1⟩:=ic Tryz.underlying3 g1
 have g2:DataW.trod enc Tryz.prog W base spare held m 2 (List.take (Tryz.prog.cellsOf 2) (List.drop 2 cs))=some y2:=hf 2 _ rfl
 have e2:Tryz.prog.cellsOf 2=1:=by kernel_rfl
 rw [e2] at g2
 obtain ⟨v2,h2⟩:=ic Tryz.underlying2 g2
 have g3:DataW.trod enc Tryz.prog W base spare held m 2 (List.take (Tryz.prog.cellsOf 2) (List.drop 3 cs))=some y3:=hf 3 _ rfl
 have e3:Tryz.prog.cellsOf 2=1:=by kernel_rfl
 rw [e3] at g3
 obtain ⟨v3,h3⟩:=ic Tryz.underlying2 g3
 have g4:DataW.trod enc Tryz.prog W base spare held m 99 (List.take (Tryz.prog.cellsOf 99) (List.drop 4 cs))=some y4:=hf 4 _ rfl
 have e4:Tryz.prog.cellsOf 99=3:=by kernel_rfl
 rw [e4] at g4
 obtain ⟨v4,h4,_⟩:=Mw _ _ _ g4
 have hq:(y.1.weights Tryz.prog 101).all (·≤reachBytes)=true→By ⟨v0,v1,v2,v3,v4⟩:=by
  intro hw
  exact trivial
 match cs,hl with
 | [u0,u1,u2,u3,u4,u5,u6],_ =>
   simp at h0 h1 h2 h3 h4
   subst h0
   subst h1
   subst h2
   subst h3
   exact ⟨⟨v0,v1,v2,v3,v4⟩,.cons (.str v0) (.cons (.int _ v1) (.cons (.int _ v2) (.cons (.int _ v3) (h4)))),hq⟩
theorem xz (n:Nat) (cs:List Value) (y:DataW Hh×List MemPlace) (h:DataW.trod enc Tryz.prog W base spare held n 137 cs=some y):∃ r:Deed,All2 (PR (HW W)) (ETy.deed.enc r) cs∧((y.1.weights Tryz.prog 137).all (·≤reachBytes)=true→lv r):=by
 obtain ⟨xs,m,_,hy,hl,hlen,hf⟩:=DataW.trod_struct Tryz.underlying137 h
 have lx:xs.length=3:=hlen
 match xs,lx with
 | [y0,y1,y2],_ =>
 have c0:Tryz.prog.cellsOf 137=3:=by kernel_rfl
 rw [c0] at hl
 have g0:DataW.trod enc Tryz.prog W base spare held m 3 (List.take (Tryz.prog.cellsOf 3) (List.drop 0 cs))=some y0:=hf 0 _ rfl
 have e0:Tryz.prog.cellsOf 3=1:=by kernel_rfl
 rw [e0] at g0
 obtain ⟨v0,h0⟩:=ic Tryz.underlying3 g0
 have g1:DataW.trod enc Tryz.prog W base spare held m 9 (List.take (Tryz.prog.cellsOf 9) (List.drop 1 cs))=some y1:=hf 1 _ rfl
 have e1:Tryz.prog.cellsOf 9=1:=by kernel_rfl
 rw [e1] at g1
 obtain ⟨v1,h1⟩:=kb Tryz.underlying9 g1
 have g2:DataW.trod enc Tryz.prog W base spare held m 48 (List.take (Tryz.prog.cellsOf 48) (List.drop 2 cs))=some y2:=hf 2 _ rfl
 have e2:Tryz.prog.cellsOf 48=1:=by kernel_rfl
 rw [e2] at g2
 obtain ⟨v2,w2,h2,p2,q2⟩:=e9 .cell (Q:=pb) Tryz.underlying48 (by kernel_rfl) C6 g2
 have hq:(y.1.weights Tryz.prog 137).all (·≤reachBytes)=true→lv ⟨v0,v1,v2⟩:=by
  intro hw
  rw [hy] at hw
  have hw2:(y0.1.weights Tryz.prog 3++(y1.1.weights Tryz.prog 9++(y2.1.weights Tryz.prog 48++[]))).all (·≤reachBytes)=true:=by
   simpa [DataW.weights,Tryz.underlying137,DataW.weightsEach] using hw
  simp only [bG,aL,af] at hw2
  obtain ⟨z0,z1,z2⟩:=hw2
  have x2:=q2 z2
  rw [show Tryz.prog.bytesOf 187=32 by kernel_rfl] at x2
  have k2:=x2.2
  unfold reachBytes at k2
  exact ⟨show v2.length * 32≤140737488355328 by omega,x2.1⟩
 match cs,hl with
 | [u0,u1,u2],_ =>
   simp at h0 h1 h2
   subst h0
   subst h1
   subst h2
   exact ⟨⟨v0,v1,v2⟩,.cons (.int _ v0) (.cons (.str v1) (.cons p2 (.nil))),hq⟩
theorem LX (n:Nat) (cs:List Value) (y:DataW Hh×List MemPlace) (h:DataW.trod enc Tryz.prog W base spare held n 56 cs=some y):∃ r:Ev.Stat,All2 (PR (HW W)) (ETy.stat.enc r) cs∧((y.1.weights Tryz.prog 56).all (·≤reachBytes)=true→u7 r):=by
 obtain ⟨xs,m,_,hy,hl,hlen,hf⟩:=DataW.trod_struct Tryz.underlying56 h
 have lx:xs.length=6:=hlen
 match xs,lx with
 | [y0,y1,y2,y3,y4,y5],_ =>
 have c0:Tryz.prog.cellsOf 56=6:=by kernel_rfl
 rw [c0] at hl
 have g0:DataW.trod enc Tryz.prog W base spare held m 9 (List.take (Tryz.prog.cellsOf 9) (List.drop 0 cs))=some y0:=hf 0 _ rfl
 have e0:Tryz.prog.cellsOf 9=1:=by kernel_rfl
 rw [e0] at g0
 obtain ⟨v0,h0⟩:=kb Tryz.underlying9 g0
 have g1:DataW.trod enc Tryz.prog W base spare held m 3 (List.take (Tryz.prog.cellsOf 3) (List.drop 1 cs))=some y1:=hf 1 _ rfl
 have e1:Tryz.prog.cellsOf 3=1:=by kernel_rfl
 rw [e1] at g1
 obtain ⟨v1,h1⟩:=ic Tryz.underlying3 g1
 have g2:DataW.trod enc Tryz.prog W base spare held m 3 (List.take (Tryz.prog.cellsOf 3) (List.drop 2 cs))=some y2:=hf 2 _ rfl
 have e2:Tryz.prog.cellsOf 3=1:=by kernel_rfl
 rw [e2] at g2
 obtain ⟨v2,h2⟩:=ic Tryz.underlying3 g2
 have g3:DataW.trod enc Tryz.prog W base spare held m 9 (List.take (Tryz.prog.cellsOf 9) (List.drop 3 cs))=some y3:=hf 3 _ rfl
 have e3:Tryz.prog.cellsOf 9=1:=by kernel_rfl
 rw [e3] at g3
 obtain ⟨v3,h3⟩:=kb Tryz.underlying9 g3
 have g4:DataW.trod enc Tryz.prog W base spare held m 49 (List.take (Tryz.prog.cellsOf 49) (List.drop 4 cs))=some y4:=hf 4 _ rfl
 have e4:Tryz.prog.cellsOf 49=1:=by kernel_rfl
 rw [e4] at g4
 obtain ⟨v4,w4,h4,p4,q4⟩:=e9 .deed (Q:=lv) Tryz.underlying49 (by kernel_rfl) xz g4
 have g5:DataW.trod enc Tryz.prog W base spare held m 49 (List.take (Tryz.prog.cellsOf 49) (List.drop 5 cs))=some y5:=hf 5 _ rfl
 have e5:Tryz.prog.cellsOf 49=1:=by kernel_rfl
 rw [e5] at g5
 obtain ⟨v5,w5,h5,p5,q5⟩:=e9 .deed (Q:=lv) Tryz.underlying49 (by kernel_rfl) xz g5
 have hq:(y.1.weights Tryz.prog 56).all (·≤reachBytes)=true→u7 ⟨v0,v1,v2,v3,v4,v5⟩:=by
  intro hw
  rw [hy] at hw
  have hw2:(y0.1.weights Tryz.prog 9++(y1.1.weights Tryz.prog 3++(y2.1.weights Tryz.prog 3++(y3.1.weights Tryz.prog 9++(y4.1.weights Tryz.prog 49++(y5.1.weights Tryz.prog 49++[])))))).all (·≤reachBytes)=true:=by
   simpa [DataW.weights,Tryz.underlying56,DataW.weightsEach] using hw
  simp only [bG,aL,af] at hw2
  obtain ⟨z0,z1,z2,z3,z4,z5⟩:=hw2
  have x4:=q4 z4
  rw [show Tryz.prog.bytesOf 137=48 by kernel_rfl] at x4
  have k4:=x4.2
  unfold reachBytes at k4
  have x5:=q5 z5
  rw [show Tryz.prog.bytesOf 137=48 by kernel_rfl] at x5
  have k5:=x5.2
  unfold reachBytes at k5
  exact ⟨⟨show v4.length * 48≤140737488355328 by omega,x4.1⟩,⟨show v5.length * 48≤140737488355328 by omega,x5.1⟩⟩
 match cs,hl with
 | [u0,u1,u2,u3,u4,u5],_ =>
   simp at h0 h1 h2 h3 h4 h5
   subst h0
   subst h1
   subst h2
   subst h3
   subst h4
   subst h5
   exact ⟨⟨v0,v1,v2,v3,v4,v5⟩,.cons (.str v0) (.cons (.int _ v1) (.cons (.int _ v2) (.cons (.str v3) (.cons p4 (.cons p5 (.nil)))))),hq⟩
theorem L2 (n:Nat) (cs:List Value) (y:DataW Hh×List MemPlace) (h:DataW.trod enc Tryz.prog W base spare held n 51 cs=some y):∃ r:Tran,All2 (PR (HW W)) (ETy.tran.enc r) cs∧((y.1.weights Tryz.prog 51).all (·≤reachBytes)=true→vg r):=by
 obtain ⟨xs,m,_,hy,hl,hlen,hf⟩:=DataW.trod_struct Tryz.underlying51 h
 have lx:xs.length=5:=hlen
 match xs,lx with
 | [y0,y1,y2,y3,y4],_ =>
 have c0:Tryz.prog.cellsOf 51=5:=by kernel_rfl
 rw [c0] at hl
 have g0:DataW.trod enc Tryz.prog W base spare held m 3 (List.take (Tryz.prog.cellsOf 3) (List.drop 0 cs))=some y0:=hf 0 _ rfl
 have e0:Tryz.prog.cellsOf 3=1:=by kernel_rfl
 rw [e0] at g0
 obtain ⟨v0,h0⟩:=ic Tryz.underlying3 g0
 have g1:DataW.trod enc Tryz.prog W base spare held m 9 (List.take (Tryz.prog.cellsOf 9) (List.drop 1 cs))=some y1:=hf 1 _ rfl
 have e1:Tryz.prog.cellsOf 9=1:=by kernel_rfl
 rw [e1] at g1
 obtain ⟨v1,h1⟩:=kb Tryz.underlying9 g1
 have g2:DataW.trod enc Tryz.prog W base spare held m 48 (List.take (Tryz.prog.cellsOf 48) (List.drop 2 cs))=some y2:=hf 2 _ rfl
 have e2:Tryz.prog.cellsOf 48=1:=by kernel_rfl
 rw [e2] at g2
 obtain ⟨v2,w2,h2,p2,q2⟩:=e9 .cell (Q:=pb) Tryz.underlying48 (by kernel_rfl) C6 g2
 have g3:DataW.trod enc Tryz.prog W base spare held m 9 (List.take (Tryz.prog.cellsOf 9) (List.drop 3 cs))=some y3:=hf 3 _ rfl
 have e3:Tryz.prog.cellsOf 9=1:=by kernel_rfl
 rw [e3] at g3
 obtain ⟨v3,h3⟩:=kb Tryz.underlying9 g3
 have g4:DataW.trod enc Tryz.prog W base spare held m 49 (List.take (Tryz.prog.cellsOf 49) (List.drop 4 cs))=some y4:=hf 4 _ rfl
 have e4:Tryz.prog.cellsOf 49=1:=by kernel_rfl
 rw [e4] at g4
 obtain ⟨v4,w4,h4,p4,q4⟩:=e9 .deed (Q:=lv) Tryz.underlying49 (by kernel_rfl) xz g4
 have hq:(y.1.weights Tryz.prog 51).all (·≤reachBytes)=true→vg ⟨v0,v1,v2,v3,v4⟩:=by
  intro hw
  rw [hy] at hw
  have hw2:(y0.1.weights Tryz.prog 3++(y1.1.weights Tryz.prog 9++(y2.1.weights Tryz.prog 48++(y3.1.weights Tryz.prog 9++(y4.1.weights Tryz.prog 49++[]))))).all (·≤reachBytes)=true:=by
   simpa [DataW.weights,Tryz.underlying51,DataW.weightsEach] using hw
  simp only [bG,aL,af] at hw2
  obtain ⟨z0,z1,z2,z3,z4⟩:=hw2
  have x2:=q2 z2
  rw [show Tryz.prog.bytesOf 187=32 by kernel_rfl] at x2
  have k2:=x2.2
  unfold reachBytes at k2
  have x4:=q4 z4
  rw [show Tryz.prog.bytesOf 137=48 by kernel_rfl] at x4
  have k4:=x4.2
  unfold reachBytes at k4
  exact ⟨⟨show v2.length * 32≤140737488355328 by omega,x2.1⟩,⟨show v4.length * 48≤140737488355328 by omega,x4.1⟩⟩
 match cs,hl with
 | [u0,u1,u2,u3,u4],_ =>
   simp at h0 h1 h2 h3 h4
   subst h0
   subst h1
   subst h2
   subst h3
   subst h4
   exact ⟨⟨v0,v1,v2,v3,v4⟩,.cons (.int _ v0) (.cons (.str v1) (.cons p2 (.cons (.str v3) (.cons p4 (.nil))))),hq⟩
theorem JN {cs:Array Value} (h:cs.size=5):∃ a b c d e,cs=#[a,b,c,d,e]:=by
 obtain ⟨l⟩:=cs
 match l,h with
 | [a,b,c,d,e],_=>exact ⟨a,b,c,d,e,rfl⟩
theorem Dv {v:Value} {d:DataW Hh} {ps:List MemPlace} {b0:Nat} (h:DataW.Trod enc Tryz.prog W base spare held 27 v d ps) (hv:Value.okWide Tryz.prog W .any b0 27 v) :
 ∃ c:Chart,SX.R (VW W) (.e .chart c) v∧((d.weights Tryz.prog 27).all (·≤reachBytes)=true→ot c):=by
 simp only [Value.okWide,Tryz.underlying27] at hv
 obtain ⟨cs,rfl,hsz,ts,hts,_,hcs⟩:=hv
 have c26:Tryz.prog.cellsOf 27=5:=by kernel_rfl
 rw [c26] at hsz
 obtain ⟨s0,s1,s2,s3,s4,rfl⟩:=JN hsz
 obtain ⟨fuel,hf⟩:=h
 obtain ⟨xs,m,_,hx,hl,hlen,hf⟩:=DataW.trod_struct Tryz.underlying27 hf
 have lx:xs.length=5:=hlen
 match xs,lx with
 | [y0,y1,y2,y3,y4],_ =>
 simp only [ae] at hx
 have g0:DataW.trod enc Tryz.prog W base spare held m 9 (List.take (Tryz.prog.cellsOf 9) (List.drop 0 [s0,s1,s2,s3,s4]))=some y0:=hf 0 _ rfl
 have e0:Tryz.prog.cellsOf 9=1:=by kernel_rfl
 rw [e0] at g0
 obtain ⟨v0,h0⟩:=kb Tryz.underlying9 g0
 have g1:DataW.trod enc Tryz.prog W base spare held m 22 (List.take (Tryz.prog.cellsOf 22) (List.drop 1 [s0,s1,s2,s3,s4]))=some y1:=hf 1 _ rfl
 have e1:Tryz.prog.cellsOf 22=1:=by kernel_rfl
 rw [e1] at g1
 obtain ⟨v1,w1,h1,p1,q1⟩:=e9 .str (Q:=GJ) Tryz.underlying22 (by kernel_rfl) MG g1
 have g2:DataW.trod enc Tryz.prog W base spare held m 23 (List.take (Tryz.prog.cellsOf 23) (List.drop 2 [s0,s1,s2,s3,s4]))=some y2:=hf 2 _ rfl
 have e2:Tryz.prog.cellsOf 23=1:=by kernel_rfl
 rw [e2] at g2
 obtain ⟨v2,w2,h2,p2,q2⟩:=e9 .var (Q:=By) Tryz.underlying23 (by kernel_rfl) MB g2
 have g3:DataW.trod enc Tryz.prog W base spare held m 24 (List.take (Tryz.prog.cellsOf 24) (List.drop 3 [s0,s1,s2,s3,s4]))=some y3:=hf 3 _ rfl
 have e3:Tryz.prog.cellsOf 24=1:=by kernel_rfl
 rw [e3] at g3
 obtain ⟨v3,w3,h3,p3,q3⟩:=e9 .stat (Q:=u7) Tryz.underlying24 (by kernel_rfl) LX g3
 have g4:DataW.trod enc Tryz.prog W base spare held m 25 (List.take (Tryz.prog.cellsOf 25) (List.drop 4 [s0,s1,s2,s3,s4]))=some y4:=hf 4 _ rfl
 have e4:Tryz.prog.cellsOf 25=1:=by kernel_rfl
 rw [e4] at g4
 obtain ⟨v4,w4,h4,p4,q4⟩:=e9 .tran (Q:=vg) Tryz.underlying25 (by kernel_rfl) L2 g4
 have hq:(d.weights Tryz.prog 27).all (·≤reachBytes)=true→ot ⟨v0,v1,v2,v3,v4⟩:=by
  intro hw
  rw [hx.1] at hw
  have hw2:(y0.1.weights Tryz.prog 9++(y1.1.weights Tryz.prog 22++(y2.1.weights Tryz.prog 23++(y3.1.weights Tryz.prog 24++(y4.1.weights Tryz.prog 25++[]))))).all (·≤reachBytes)=true:=by
   simpa [DataW.weights,Tryz.underlying27,DataW.weightsEach] using hw
  simp only [bG,aL,af] at hw2
  obtain ⟨z0,z1,z2,z3,z4⟩:=hw2
  have x1:=q1 z1
  rw [show Tryz.prog.bytesOf 9=16 by kernel_rfl] at x1
  have k1:=x1.2
  unfold reachBytes at k1
  have x2:=q2 z2
  rw [show Tryz.prog.bytesOf 101=64 by kernel_rfl] at x2
  have k2:=x2.2
  unfold reachBytes at k2
  have x3:=q3 z3
  rw [show Tryz.prog.bytesOf 56=96 by kernel_rfl] at x3
  have k3:=x3.2
  unfold reachBytes at k3
  have x4:=q4 z4
  rw [show Tryz.prog.bytesOf 51=88 by kernel_rfl] at x4
  have k4:=x4.2
  unfold reachBytes at k4
  exact ⟨⟨show v1.length * 16≤140737488355328 by omega,x1.1⟩,⟨show v2.length * 64≤140737488355328 by omega,x2.1⟩,⟨show v3.length * 96≤140737488355328 by omega,x3.1⟩,⟨show v4.length * 88≤140737488355328 by omega,x4.1⟩⟩
 simp at h0 h1 h2 h3 h4
 subst h0; subst h1; subst h2; subst h3; subst h4
 exact ⟨⟨v0,v1,v2,v3,v4⟩,⟨[_,_,_,_,_],rfl,.cons (.str v0) (.cons p1 (.cons p2 (.cons p3 (.cons p4 (.nil)))))⟩,hq⟩
end
end Go.Proofs.YtgfifkhbfdacjaaGreatDoor
namespace Go.Proofs.YtgfifkhbfdacjaaGreatDoor
open Go Go.Ev
set_option maxRecDepth 100000
theorem Ac:∀ (l:List Int) (a b:Int),l.Pairwise (· < ·)→(∀ y∈l,a≤y∧y<b)→(l.length:Int)≤(if a≤b then b - a else 0)
 | [],a,b,_,_=>by split <;> simp <;> omega
 | x::r,a,b,hp,hm=>by
   rw [cy] at hp
   have h1:=hm x (ax ..)
   have ih:=Ac r (x+1) b hp.2 (fun y hy=>⟨by have:=hp.1 y hy; omega,(hm y (aI _ hy)).2⟩)
   rw [aF]
   rw [if_pos (by omega)] at ih ⊢
   omega
theorem xl {l:List Ev.Stat} {s:List Int} (h:dF l s=true):(∀ y∈s,0≤y∧y<(l.length:Int))∧s.length≤l.length:=by
 unfold dF at h
 rw [af] at h
 have h1:=(sj l s (-1) (by omega)).1 h.1
 have h2:∀ y∈s,0≤y∧y<(l.length:Int):=fun y hy=>by
  obtain ⟨_,i,rfl,hi,_⟩:=h1.2 y hy
  omega
 refine ⟨h2,?_⟩
 have h3:=Ac s 0 l.length h1.1 h2
 rw [if_pos (by omega)] at h3
 omega
theorem Lk {c:Chart} (h:ot c):c.vars.length≤2199023255552∧c.states.length≤1466015503701:=by
 obtain ⟨_,⟨h2,_⟩,⟨h3,_⟩,_⟩:=h
 have h2':c.vars.length * 64≤140737488355328:=h2
 have h3':c.states.length * 96≤140737488355328:=h3
 omega
theorem Lz {c:Chart} (h:ot c):∀ s∈c.states,s.entry.length≤4398046511104∧s.leave.length≤4398046511104:=by
 intro s hs
 obtain ⟨⟨h1,_⟩,⟨h2,_⟩⟩:=h.2.2.1.2 s hs
 have h1':s.entry.length * 48≤140737488355328:=h1
 have h2':s.leave.length * 48≤140737488355328:=h2
 omega
end Go.Proofs.YtgfifkhbfdacjaaGreatDoor
namespace Go.Proofs.YtgfifkhbfdacjaaGreatDoor
open Go Go.Ev
set_option maxRecDepth 100000
def jO:Cfg:=⟨aY,[jE,nE]⟩
theorem gH:ag Tryz.prog jO.tab:=(ag.cons jT (ag.cons sW ag.nil))
variable (l:List Ev.Stat) (p:List Int) (b:List Bool) (k:Nat) (ks:List Int)
def kP (n:Nat):List Int:=((List.range n).filter fun i=>b.getD i false).map fun i:Nat=>(i:Int)
def chM (i:Nat) (m:Int):Int:=ETy.get .int (gQ l i) (if decide ((p.length:Int)>0)=true then (Int.tmod (IntKind.wrap .i64 (ETy.get .byte p (Int.tmod m (p.length:Int)).toNat)) ((gQ l i).length:Int)).toNat else 0)
theorem F6:kP b (k+1)=kP b k++(if ETy.get .bool b k=true then [(k:Int)] else []):=by
 unfold kP
 have e:b.getD k false=ETy.get .bool b k:=rfl
 have e2:List.filter (fun i=>b.getD i false) [k]=if b.getD k false=true then [k] else []:=by rw [List.filter_cons]; rfl
 rw [eA,b5,bP,← e,e2]
 cases b.getD k false <;> rfl
abbrev zCq3:List PI:=[.code [1,1,1,1,1,0,1,0,0],.inLoop [1,1,1,1,1,0,1,0,0],.inBlock 6,.code [1,1,1,1,1,1]]
theorem IA (c:Chart) (p:List Int) (a:List Bool) (hl:a.length≤1000) (Γ:Ctx):∀ (n j:Nat),a.length - j≤n→j≤a.length →
 J Tryz.prog 19 (au Tryz.f19) Γ (Eq2 (.x (.c (.own 0))) [.own 3 .int (kP a a.length)]) zCq3 ({ n:=132,fr:=[(4,.p (.v (Value.slice none 0 0))),(5,.x (.c (.own 0))),(13,.x (.c (.own 1))),(14,.i ((j:Int)))],ck:=[.own 4 .bool a,.own 3 .int (kP a j)] }):=by
 have hm:a.length≤maxLen:=by unfold maxLen; omega
 intro n
 induction n with
 | zero=>?_
 | succ n ih=>?_
 all_goals
  intro j hn hj
  have hol:(kP a j).length≤j:=by
   unfold kP
   rw [aN]
   exact av (br _ _) (by simp)
  have ht:=F6 a j
  generalize hout:kP a j=out at hol ht
  refine jg gH Tryz.func19 (let x1:List (Nat×SV):=[(4,.p (.v (Value.slice none 0 0))),(5,.x (.c (.own 0))),(13,.x (.c (.own 1))),(14,.i (IntKind.wrap .i64 ((j:Int)+1)))]; let x2:List PI:=zCq3; .ite (decide ((j:Int)<(a.length:Int))) (.need (inRg j a.length) (.need (j<a.length) (.ite (ETy.get .bool a j) (.need (room ((out++[(j:Int)]).length) 8) (.stop x2 { n:=132,fr:=x1,ck:=[.own 4 .bool a,.own 3 .int (out++[(j:Int)])] })) (.stop x2 { n:=132,fr:=x1,ck:=[.own 4 .bool a,.own 3 .int out] })))) (.ret (.x (.c (.own 0))) [.own 3 .int out])) ?_
  conv=>zeta
  refine ⟨fun hlt=>?_,fun hge=>?_⟩
  · have hj':j<a.length:=by have:=of_decide_eq_true hlt; omega
    refine ⟨⟨by omega,by omega⟩,hj',fun hb=>?_,fun hb=>?_⟩
    · rw [if_pos (by exact hb)] at ht
      refine ⟨⟨by rw [ar]; show (_+1) * 8≤_; omega,by rw [ar]; show _+1≤_; unfold maxLen; omega⟩,?_⟩
      rw [aX (aE hj' hm),← ht]
      first
      | (exfalso; omega)
      | exact ih (j+1) (by omega) (by omega)
    · rw [if_neg (by rw [show ETy.get .bool a j=false from hb]; decide),aL] at ht
      rw [aX (aE hj' hm),← ht]
      first
      | (exfalso; omega)
      | exact ih (j+1) (by omega) (by omega)
  · have hje:j=a.length:=by have:=of_decide_eq_false hge; omega
    subst hje
    rw [← hout]; exact ⟨rfl,rfl⟩
def rlK:List Int:=ks.filter fun y=>!aO (ETy.get .stat l y.toNat).kind
theorem Lb {ks:List Int} {j:Nat} (hj:j<ks.length):rlK l (ks.take (j+1))=rlK l (ks.take j)++(if (!aO (ETy.get .stat l (ETy.get .int ks j).toNat).kind)=true then [ETy.get .int ks j] else []):=by
 unfold rlK
 rw [ETy.get_eq (t:=.int) (List.getElem?_eq_getElem hj),aU hj,b5]
 cases h:(!aO (ETy.get .stat l (ks[j]).toNat).kind) <;> simp [h]
abbrev zCq1 (a:Chart):Chunk:=.cells [.pd (.str a.name),.pd (.lst .str a.events),.pd (.lst .var a.vars),.pd (.lst .stat a.states),.pd (.lst .tran a.trans)] 27
abbrev zCq2:List PI:=[.code [1,1,1,0,1,0,0,1,0,0,1,1,1,1,0,1,0,0],.inLoop [1,1,1,0,1,0,0,1,0,0,1,1,1,1,0,1,0,0],.inBlock 2,.code [1,1,1,0,1,0,0,1,0,0,1,1,1,1,1],.inBlock 1,.code [1,1,1,0,1,0,0,1,1],.inLoop [1,1,1,0,1,0,0],.inBlock 0,.code [1,1,1,1]]
theorem Ij (c:Chart) (p:List Int) (a:List Bool) (m:Int) (k:Nat) (ks:List Int) (hl:ks.length≤1000) (hks:∀ y∈ks,0≤y∧y<(c.states.length:Int)) (Γ:Ctx) (Q:Out)
 (hend:J Tryz.prog 19 (au Tryz.f19) Γ Q zCq2 ({ n:=132,fr:=[(1,.p (.lst .byte p)),(2,.x (.c (.loc 0 0))),(4,.p (.v (Value.slice none 0 0))),(5,.x (.c (.own 1))),(6,.i m),(7,.i k),(8,.x (.c (.own 2))),(9,.x (.c (.own 3))),(10,.i ((ks.length:Int)))],ck:=[zCq1 c,.own 4 .bool a,.own 3 .int ks,.own 3 .int (rlK c.states ks)] })):∀ (n j:Nat),ks.length - j≤n→j≤ks.length →
 J Tryz.prog 19 (au Tryz.f19) Γ Q zCq2 ({ n:=132,fr:=[(1,.p (.lst .byte p)),(2,.x (.c (.loc 0 0))),(4,.p (.v (Value.slice none 0 0))),(5,.x (.c (.own 1))),(6,.i m),(7,.i k),(8,.x (.c (.own 2))),(9,.x (.c (.own 3))),(10,.i ((j:Int)))],ck:=[zCq1 c,.own 4 .bool a,.own 3 .int ks,.own 3 .int (rlK c.states (ks.take j))] }):=by
 have hm:ks.length≤maxLen:=by unfold maxLen; omega
 intro n
 induction n with
 | zero=>?_
 | succ n ih=>?_
 all_goals
  intro j hn hj
  by_cases hj':j<ks.length
  · have hol:(rlK c.states (ks.take j)).length≤j:=by
     unfold rlK
     exact av (br _ _) (by rw [bj]; omega)
    have ht:=Lb c.states hj'
    have hy:=hks (ETy.get .int ks j) (by rw [ETy.get_eq (t:=.int) (List.getElem?_eq_getElem hj')]; exact bo hj')
    generalize hrl:rlK c.states (ks.take j)=rl at hol ht
    refine jg gH Tryz.func19 (let x1:=(IntKind.wrap .i64 (ETy.get .byte p ((Int.tmod m (p.length:Int)).toNat))); let x11:List Nat:=[1,1,1,0,1,0,0,1,0,0,1,1,1,1,0,1,0,0]; let x2:List PI:=[.code x11,.inLoop x11,.inBlock 2,.code [1,1,1,0,1,0,0,1,0,0,1,1,1,1,1],.inBlock 1,.code [1,1,1,0,1,0,0,1,1],.inLoop [1,1,1,0,1,0,0],.inBlock 0,.code [1,1,1,1]]; let x10:Nat×SV:=(1,.p (.lst .byte p)); let x9:Nat×SV:=(2,.x (.c (.loc 0 0))); let x7:Nat×SV:=(4,.p (.v (Value.slice none 0 0))); let x3:List (Nat×SV):=[x10,x9,x7,(5,.x (.c (.own 1))),(6,.i m),(7,.i k),(8,.x (.c (.own 2))),(9,.x (.c (.own 3))),(10,.i (IntKind.wrap .i64 ((j:Int)+1)))]; let x12:=(IntKind.wrap .i64 ((k:Int)+1)); let x4:List (Nat×SV):=[x10,x9,x7,(5,.x (.c (.own 1))),(6,.i (IntKind.wrap .i64 (m+(1:Int)))),(7,.i x12)]; let x5:List PI:=[.code [1,1,1,0,1,0,0],.inLoop [1,1,1,0,1,0,0],.inBlock 0,.code [1,1,1,1]]; let x6:=(Int.tmod x1 (rl.length:Int)); let x8:List Nat:=[1,1,1,0,1,0,0,1,0,0,1,1,1,1,1,0,1,0,1,0,0]; .ite (decide ((j:Int)<(ks.length:Int))) (.need (inRg j ks.length) (.need (j<ks.length) (.need ((0:Int)≤ETy.get .int ks j∧ETy.get .int ks j<(c.states.length:Int)) (.ite (!aO (Stat.kind (ETy.get .stat c.states ((ETy.get .int ks j).toNat)))) (.need (inRg j ks.length) (.need (j<ks.length) (.need (room ((rl++[ETy.get .int ks j]).length) 8) (.stop x2 { n:=132,fr:=x3,ck:=[zCq1 c,.own 4 .bool a,.own 3 .int ks,.own 3 .int (rl++[ETy.get .int ks j])] })))) (.stop x2 { n:=132,fr:=x3,ck:=[zCq1 c,.own 4 .bool a,.own 3 .int ks,.own 3 .int rl] }))))) (.need (inRg k c.states.length) (.ite (Stat.kind (ETy.get .stat c.states k)==(3:Int)) (.stop [.code x8,.inLoop x8,.inBlock 4,.code [1,1,1,0,1,0,0,1,0,0,1,1,1,1,1,1],.inBlock 1,.code [1,1,1,0,1,0,0,1,1],.inLoop [1,1,1,0,1,0,0],.inBlock 0,.code [1,1,1,1]] { n:=132,fr:=[x10,x9,x7,(5,.x (.c (.own 1))),(6,.i m),(7,.i k),(9,.x (.c (.own 2))),(11,.i 0)],ck:=[zCq1 c,.own 4 .bool a,.own 3 .int rl] }) (.need (inRg k c.states.length) (.ite (Stat.kind (ETy.get .stat c.states k)==(2:Int)) (.ite (decide ((p.length:Int)>0)) (.need ((p.length:Int)≠(0:Int)) (.need ((0:Int)≤Int.tmod m (p.length:Int)∧Int.tmod m (p.length:Int)<(p.length:Int)) (.need ((rl.length:Int)≠(0:Int)) (.need ((0:Int)≤Int.tmod x1 (rl.length:Int)∧Int.tmod x1 (rl.length:Int)<(rl.length:Int)) (.need (x6.toNat<rl.length) (.need ((0:Int)≤ETy.get .int rl (x6.toNat)∧ETy.get .int rl (x6.toNat)<(a.length:Int)) (.need ((ETy.get .int rl (x6.toNat)).toNat<a.length) (.stop x5 { n:=132,fr:=x4,ck:=[zCq1 c,.own 4 .bool (List.set a ((ETy.get .int rl (x6.toNat)).toNat) true)] })))))))) (.need ((rl.length:Int)≠(0:Int)) (.need ((0:Int)≤Int.tmod (0:Int) (rl.length:Int)∧Int.tmod (0:Int) (rl.length:Int)<(rl.length:Int)) (.need (0<rl.length) (.need ((0:Int)≤ETy.get .int rl 0∧ETy.get .int rl 0<(a.length:Int)) (.need ((ETy.get .int rl 0).toNat<a.length) (.stop x5 { n:=132,fr:=x4,ck:=[zCq1 c,.own 4 .bool (List.set a ((ETy.get .int rl 0).toNat) true)] }))))))) (.stop x5 { n:=132,fr:=[x10,x9,x7,(5,.x (.c (.own 1))),(6,.i m),(7,.i x12)],ck:=[zCq1 c,.own 4 .bool a] })))))) ?_
    conv=>zeta
    refine ⟨fun hlt=>⟨⟨by omega,by omega⟩,hj',hy,fun hb=>?_,fun hb=>?_⟩,fun hge=>?_⟩
    · rw [if_pos (by exact hb)] at ht
      refine ⟨⟨by omega,by omega⟩,hj',⟨by rw [ar]; show (_+1) * 8≤_; omega,by rw [ar]; show _+1≤_; unfold maxLen; omega⟩,?_⟩
      rw [aX (aE hj' hm),← ht]
      first
      | (exfalso; omega)
      | exact ih (j+1) (by omega) (by omega)
    · rw [if_neg (by rw [show (!aO (ETy.get .stat c.states (ETy.get .int ks j).toNat).kind)=false from hb]; decide),aL] at ht
      rw [aX (aE hj' hm),← ht]
      first
      | (exfalso; omega)
      | exact ih (j+1) (by omega) (by omega)
    · have:=of_decide_eq_false hge; omega
  · have hje:j=ks.length:=by omega
    subst hje
    rw [aW (aq _)]
    exact hend
end Go.Proofs.YtgfifkhbfdacjaaGreatDoor
