/- The laws' arguments: charts, opened; their sizes by the row's bulk. Conditions: none. -/
import Derived.Test.YtpfidgnkokidoaaGreatDoorDa
namespace Go.Proofs.YtpfidgnkokidoaaGreatDoor
open Go Go.Ev Go.RowKit Go.ChangeShapes Go.WideShapes Go.ChangeAt
set_option maxRecDepth 100000
theorem MF {W:World} {a:Addr} {u:Value} (h:W.cell? a=some u):a.spot=none:=by
 unfold World.cell? at h
 split at h
 · split at h
   · cases h
   · rename_i hn; simpa using hn
 · cases h
def InI (n:Int):Prop:=-9223372036854775808≤n∧n≤9223372036854775807
theorem inI {n:Int} (h:(Lit.int .i64 n).wf=true):InI n:=by
 simp only [Lit.wf,ab,decide_eq_true_eq] at h
 have h1:IntKind.i64.min = -9223372036854775808:=by decide
 have h2:IntKind.i64.max=9223372036854775807:=by decide
 rw [h1,h2] at h
 exact h
theorem DC {H:Type}:∀ {l:List (DataW H)} {d:DataW H},d∈l→Rows.uptoBulk d≤Rows.uptoBulkAll l
 | [],_,h=>by cases h
 | x::r,d,h=>by
   simp only [Rows.uptoBulkAll]
   rcases aO.1 h with rfl | h
   · omega
   · have:=DC h; omega
theorem fJ {H:Type} (d:DataW H):1≤Rows.uptoBulk d:=by
 cases d with
 | lit l=>cases l <;> simp [Rows.uptoBulk]
 | _=>simp [Rows.uptoBulk]
theorem Dr {H:Type} (k:Nat):∀ l:List (DataW H),(∀ d∈l,k≤Rows.uptoBulk d)→k * l.length≤Rows.uptoBulkAll l
 | [],_=>by simp
 | x::r,h=>by
   have h1:=Dr k r fun y hy=>h y (aE _ hy)
   have h2:=h x aA
   simp only [Rows.uptoBulkAll,ah,Nat.mul_succ]; omega
section
variable {Hh:Type} {enc:TypeId×Value→Hh} {P:Program} {W:World} {base:Nat} {spare:Nat→Bool} {held:Bool}
theorem jx {t:TypeId} (ht:P.underlying t=some .string) {fuel:Nat} {cs:List Value} {y:DataW Hh×List MemPlace} (h:DataW.trod enc P W base spare held fuel t cs=some y):∃ s:Str,cs=[.string (bs s)]∧s.length+1≤Rows.uptoBulk y.1:=by
 obtain ⟨s,h1,h2,_⟩:=DataW.trod_string ht h
 refine ⟨s.data.toList,by rw [h1,ll],?_⟩
 rw [h2]
 simp [Rows.uptoBulk]
theorem hJ {t:TypeId} (ht:P.underlying t=some (.int .i64)) {fuel:Nat} {cs:List Value} {y:DataW Hh×List MemPlace} (h:DataW.trod enc P W base spare held fuel t cs=some y):∃ n,cs=[.int .i64 n]∧InI n:=by
 obtain ⟨n,h1,_,h2⟩:=DataW.trod_int ht h
 exact ⟨n,h1,inI h2⟩
theorem gP (u:ETy) (Q:Nat→u.den→Prop) (hQ:∀ (r:u.den) (m n:Nat),m≤n→Q m r→Q n r) (wt:Nat) (hwt:∀ (r:u.den) (m:Nat),Q m r→wt≤m) {t e:TypeId} {fuel:Nat} {cs:List Value} {x:DataW Hh×List MemPlace} (ht:P.underlying t=some (.slice e)) (hsz:P.cellsOf e=u.size)
 (hel:∀ n cs y,DataW.trod enc P W base spare held n e cs=some y→∃ r,All2 (PR (HW W)) (u.enc r) cs∧Q (Rows.uptoBulk y.1) r) (h:DataW.trod enc P W base spare held fuel t cs=some x) :
 ∃ (l:List u.den) (v:Value),cs=[v]∧PR (HW W) (.lst u l) v∧wt * l.length≤Rows.uptoBulk x.1∧∀ r∈l,Q (Rows.uptoBulk x.1) r:=by
 rcases Go.Deep.open_slice ht h with ⟨rfl,rfl⟩ | ⟨a,len,cap,m,n,D,Pl,rfl,_,hl,hm,hmm,rfl,hx⟩
 · exact ⟨[],_,rfl,.emp u none 0 (fun _=>rfl),by simp,by simp⟩
 · have hlen:len≤m:=by rw [hmm]; split <;> omega
   letI:Inhabited u.den:=⟨u.dflt⟩
   obtain ⟨f,hf⟩:=Go.Deep.choose_lt (α:=u.den) (n:=len) (p:=fun i r=>(∃ cs,W.cells? base (a.add (i * u.size)) u.size=some cs∧All2 (PR (HW W)) (u.enc r) cs)∧Q (Rows.uptoBulk (D i)) r) (fun i hi=>by
    obtain ⟨cs,h1,h2⟩:=hx i (by omega)
    obtain ⟨r,hr,hq⟩:=hel _ _ _ h2
    rw [hsz] at h1
    exact ⟨r,⟨cs,h1,hr⟩,hq⟩)
   have hfl:((List.range len).map f).length=len:=by simp
   have hb0:Rows.uptoBulk (DataW.slice ((List.range len).map D) ((List.range (m - len)).map fun j=>D (len+j)))=Rows.uptoBulkAll ((List.range len).map D)+Rows.uptoBulkAll ((List.range (m - len)).map fun j=>D (len+j))+1:=by simp only [Rows.uptoBulk]
   refine ⟨(List.range len).map f,_,rfl,?_,?_,?_⟩
   · rcases Nat.eq_zero_or_pos len with h0 | h0
     · subst h0
       exact .emp u (some a) cap (fun h=>by cases h)
     · have hs:a.spot=none:=by
        obtain ⟨cs,h1,h2⟩:=(hf 0 h0).1
        obtain ⟨_,hl,hc⟩:=World.cells?_some h1
        have h3:=hc 0 u.size_pos
        rw [Nat.zero_mul] at h3
        have h4:(0:Nat)<cs.length:=by rw [hl]; exact u.size_pos
        rw [List.getElem?_eq_getElem h4] at h3
        exact MF (a:=a) (by simpa [Addr.add] using h3)
       have hcell:∀ i,i<len→∀ j,j<u.size→∃ w cells e fr,W.heap[a.block]?=some (.cells cells e fr)∧cells[a.off+i * u.size+j]?=some w∧∀ p,(u.enc (f i))[j]?=some p→PR (HW W) p w:=by
        intro i hi j hj
        obtain ⟨cs,h1,h2⟩:=(hf i hi).1
        obtain ⟨_,hl,hc⟩:=World.cells?_some h1
        have h3:=hc j hj
        obtain ⟨w,hw⟩:∃ w,cs[j]?=some w:=⟨cs[j]'(by omega),List.getElem?_eq_getElem (by omega)⟩
        rw [hw] at h3
        have ha:(a.add (i * u.size)).add j=a.add (i * u.size+j):=by rw [Go.Deep.add_add]
        rw [ha] at h3
        obtain ⟨cells,e',fr,hb,h4⟩:=Ma hs rfl rfl h3
        refine ⟨w,cells,e',fr,hb,by rw [gh]; exact h4,fun p hp=>?_⟩
        obtain ⟨w',h5,h6⟩:=h2.get hp
        rw [hw,aa] at h5
        rw [h5]; exact h6
       obtain ⟨_,cells,e',fr,hb,_⟩:=hcell 0 h0 0 u.size_pos
       have hbound:a.off+len * u.size≤cells.size:=by
        obtain ⟨_,cells',e2,fr2,hb',h4,_⟩:=hcell (len - 1) (by omega) (u.size - 1) (by have:=u.size_pos; omega)
        rw [hb] at hb'
        simp only [aa,Obj.cells.injEq] at hb'
        obtain ⟨rfl,_,_⟩:=hb'
        have h5:=(Array.getElem?_eq_some_iff.1 h4).1
        have h6:len * u.size=(len - 1) * u.size+u.size:=by
         have:len=(len - 1)+1:=by omega
         rw [this,c6,gU]; simp
        have:=u.size_pos
        omega
       have key:PR (HW W) (.lst u ((List.range len).map f)) (.slice (some ⟨a.block,a.off,none⟩) ((List.range len).map f).length cap):=by
        refine .lst u _ a.block a.off cap cells e' fr hb (by rw [hfl]; exact hl) hm (by rw [hfl]; exact hbound) ?_
        intro i y hy j p hp w hw
        have hi:i<len:=by have:=(List.getElem?_eq_some_iff.1 hy).1; omega
        simp only [List.getElem?_map,List.getElem?_range hi,cn,aa] at hy
        subst hy
        have hj:j<u.size:=by have:=(List.getElem?_eq_some_iff.1 hp).1; rw [u.enc_length] at this; exact this
        obtain ⟨w',cells',e2,fr2,hb',h4,h5⟩:=hcell i hi j hj
        rw [hb] at hb'
        simp only [aa,Obj.cells.injEq] at hb'
        obtain ⟨rfl,_,_⟩:=hb'
        rw [hw,aa] at h4
        rw [h4]; exact h5 p hp
       rw [hfl] at key
       obtain ⟨b,off,sp⟩:=a
       simp only at hs
       subst hs
       exact key
   · have h1:=Dr wt ((List.range len).map D) fun d hd=>by
      obtain ⟨i,hi,rfl⟩:=ba.1 hd
      exact hwt _ _ (hf i (eu.1 hi)).2
     rw [bz,List.length_range] at h1
     rw [hfl,hb0]; omega
   · intro r hr
     obtain ⟨i,hi,rfl⟩:=ba.1 hr
     have h1:=DC (ba.2 ⟨i,hi,rfl⟩:D i∈(List.range len).map D)
     refine hQ _ _ _ ?_ (hf i (eu.1 hi)).2
     rw [hb0]; omega
end
def kz (B:Nat) (s:Str):Prop:=s.length+1≤B
def gZ (B:Nat) (r:Cell):Prop:=2≤B∧InI r.op∧InI r.a∧r.name.length≤B
def pI (B:Nat) (r:Val):Prop:=2≤B∧InI r.kind∧InI r.a∧InI r.b
def lO (B:Nat) (r:Var):Prop:=2≤B∧r.name.length≤B∧InI r.kind∧InI r.lo∧InI r.hi∧pI B r.init
def fm (B:Nat) (r:Deed):Prop:=2≤B∧InI r.kind∧r.name.length≤B∧(2 * r.expr.length≤B∧∀ x∈r.expr,gZ B x)
def jR (B:Nat) (r:Ev.Stat):Prop:=2≤B∧r.name.length≤B∧InI r.kind∧InI r.depth∧r.initial.length≤B∧(2 * r.entry.length≤B∧∀ x∈r.entry,fm B x)∧(2 * r.leave.length≤B∧∀ x∈r.leave,fm B x)
def jT (B:Nat) (r:Tran):Prop:=2≤B∧InI r.src∧r.event.length≤B∧(2 * r.guard.length≤B∧∀ x∈r.guard,gZ B x)∧r.dst.length≤B∧(2 * r.acts.length≤B∧∀ x∈r.acts,fm B x)
def lv (B:Nat) (r:Chart):Prop:=2≤B∧r.name.length≤B∧(1 * r.events.length≤B∧∀ x∈r.events,kz B x)∧(2 * r.vars.length≤B∧∀ x∈r.vars,lO B x)∧(2 * r.states.length≤B∧∀ x∈r.states,jR B x)∧(2 * r.trans.length≤B∧∀ x∈r.trans,jT B x)
theorem kz.wt (r:Str) (m:Nat) (q:kz m r):1≤m:=by unfold kz at q; omega
theorem kz.up (r:Str) (m n:Nat) (h:m≤n) (q:kz m r):kz n r:=ay q h
theorem gZ.up (r:Cell) (m n:Nat) (h:m≤n) (q:gZ m r):gZ n r:=by
 obtain ⟨az,a0,a1,a2⟩:=q
 exact ⟨ay az h,a0,a1,ay a2 h⟩
theorem gZ.wt (r:Cell) (m:Nat) (q:gZ m r):2≤m:=q.1
theorem pI.up (r:Val) (m n:Nat) (h:m≤n) (q:pI m r):pI n r:=by
 obtain ⟨az,a0,a1,a2⟩:=q
 exact ⟨ay az h,a0,a1,a2⟩
theorem pI.wt (r:Val) (m:Nat) (q:pI m r):2≤m:=q.1
theorem lO.up (r:Var) (m n:Nat) (h:m≤n) (q:lO m r):lO n r:=by
 obtain ⟨az,a0,a1,a2,a3,a4⟩:=q
 exact ⟨ay az h,ay a0 h,a1,a2,a3,pI.up _ _ _ h a4⟩
theorem lO.wt (r:Var) (m:Nat) (q:lO m r):2≤m:=q.1
theorem fm.up (r:Deed) (m n:Nat) (h:m≤n) (q:fm m r):fm n r:=by
 obtain ⟨az,a0,a1,a2⟩:=q
 exact ⟨ay az h,a0,ay a1 h,⟨ay a2.1 h,fun x hx=>gZ.up _ _ _ h (a2.2 x hx)⟩⟩
theorem fm.wt (r:Deed) (m:Nat) (q:fm m r):2≤m:=q.1
theorem jR.up (r:Ev.Stat) (m n:Nat) (h:m≤n) (q:jR m r):jR n r:=by
 obtain ⟨az,a0,a1,a2,a3,a4,a5⟩:=q
 exact ⟨ay az h,ay a0 h,a1,a2,ay a3 h,⟨ay a4.1 h,fun x hx=>fm.up _ _ _ h (a4.2 x hx)⟩,⟨ay a5.1 h,fun x hx=>fm.up _ _ _ h (a5.2 x hx)⟩⟩
theorem jR.wt (r:Ev.Stat) (m:Nat) (q:jR m r):2≤m:=q.1
theorem jT.up (r:Tran) (m n:Nat) (h:m≤n) (q:jT m r):jT n r:=by
 obtain ⟨az,a0,a1,a2,a3,a4⟩:=q
 exact ⟨ay az h,a0,ay a1 h,⟨ay a2.1 h,fun x hx=>gZ.up _ _ _ h (a2.2 x hx)⟩,ay a3 h,⟨ay a4.1 h,fun x hx=>fm.up _ _ _ h (a4.2 x hx)⟩⟩
theorem jT.wt (r:Tran) (m:Nat) (q:jT m r):2≤m:=q.1
theorem lv.up (r:Chart) (m n:Nat) (h:m≤n) (q:lv m r):lv n r:=by
 obtain ⟨az,a0,a1,a2,a3,a4⟩:=q
 exact ⟨ay az h,ay a0 h,⟨ay a1.1 h,fun x hx=>kz.up _ _ _ h (a1.2 x hx)⟩,⟨ay a2.1 h,fun x hx=>lO.up _ _ _ h (a2.2 x hx)⟩,⟨ay a3.1 h,fun x hx=>jR.up _ _ _ h (a3.2 x hx)⟩,⟨ay a4.1 h,fun x hx=>jT.up _ _ _ h (a4.2 x hx)⟩⟩
theorem lv.wt (r:Chart) (m:Nat) (q:lv m r):2≤m:=q.1
section
variable {Hh:Type} {enc:TypeId×Value→Hh} {W:World} {base:Nat} {spare:Nat→Bool} {held:Bool}
theorem N7 (n:Nat) (cs:List Value) (y:DataW Hh×List MemPlace) (h:DataW.trod enc Tryz.prog W base spare held n 9 cs=some y):∃ s:Str,All2 (PR (HW W)) (ETy.str.enc s) cs∧kz (Rows.uptoBulk y.1) s:=by
 obtain ⟨s,h1,h2⟩:=jx Tryz.underlying9 h
 exact ⟨s,by rw [h1]; exact .cons (.str s) .nil,h2⟩
theorem DE (n:Nat) (cs:List Value) (y:DataW Hh×List MemPlace) (h:DataW.trod enc Tryz.prog W base spare held n 92 cs=some y):∃ r:Cell,All2 (PR (HW W)) (ETy.cell.enc r) cs∧gZ (Rows.uptoBulk y.1) r:=by
 obtain ⟨xs,m,_,rfl,hl,hlen,hf⟩:=DataW.trod_struct Tryz.underlying92 h
 have lx:xs.length=3:=hlen
 match xs,lx with
 | [y0,y1,y2],_ =>
 have c0:Tryz.prog.cellsOf 92=3:=by kernel_rfl
 rw [c0] at hl
 have g0:DataW.trod enc Tryz.prog W base spare held m 3 (List.take (Tryz.prog.cellsOf 3) (List.drop 0 cs))=some y0:=hf 0 _ rfl
 have e0:Tryz.prog.cellsOf 3=1:=by kernel_rfl
 rw [e0] at g0
 obtain ⟨v0,h0,q0⟩:=hJ Tryz.underlying3 g0
 have g1:DataW.trod enc Tryz.prog W base spare held m 2 (List.take (Tryz.prog.cellsOf 2) (List.drop 1 cs))=some y1:=hf 1 _ rfl
 have e1:Tryz.prog.cellsOf 2=1:=by kernel_rfl
 rw [e1] at g1
 obtain ⟨v1,h1,q1⟩:=hJ Tryz.underlying2 g1
 have g2:DataW.trod enc Tryz.prog W base spare held m 9 (List.take (Tryz.prog.cellsOf 9) (List.drop 2 cs))=some y2:=hf 2 _ rfl
 have e2:Tryz.prog.cellsOf 9=1:=by kernel_rfl
 rw [e2] at g2
 obtain ⟨v2,h2,q2⟩:=jx Tryz.underlying9 g2
 have hB:Rows.uptoBulk (DataW.agg ([y0,y1,y2].map (·.1)))=Rows.uptoBulk y0.1+Rows.uptoBulk y1.1+Rows.uptoBulk y2.1+1:=by
  simp only [aw,bI,Rows.uptoBulk,Rows.uptoBulkAll]; omega
 have b0:=fJ y0.1; have b1:=fJ y1.1
 match cs,hl with
 | [u0,u1,u2],_ =>
   simp at h0 h1 h2
   subst h0
   subst h1
   subst h2
   refine ⟨⟨v0,v1,v2⟩,.cons (.int _ v0) (.cons (.int _ v1) (.cons (.str v2) (.nil))),?_⟩
   rw [hB]
   exact ⟨by omega,q0,q1,ay (dp q2) (by omega)⟩
theorem OI (n:Nat) (cs:List Value) (y:DataW Hh×List MemPlace) (h:DataW.trod enc Tryz.prog W base spare held n 59 cs=some y):∃ r:Val,All2 (PR (HW W)) (ETy.val.enc r) cs∧pI (Rows.uptoBulk y.1) r:=by
 obtain ⟨xs,m,_,rfl,hl,hlen,hf⟩:=DataW.trod_struct Tryz.underlying59 h
 have lx:xs.length=3:=hlen
 match xs,lx with
 | [y0,y1,y2],_ =>
 have c0:Tryz.prog.cellsOf 59=3:=by kernel_rfl
 rw [c0] at hl
 have g0:DataW.trod enc Tryz.prog W base spare held m 3 (List.take (Tryz.prog.cellsOf 3) (List.drop 0 cs))=some y0:=hf 0 _ rfl
 have e0:Tryz.prog.cellsOf 3=1:=by kernel_rfl
 rw [e0] at g0
 obtain ⟨v0,h0,q0⟩:=hJ Tryz.underlying3 g0
 have g1:DataW.trod enc Tryz.prog W base spare held m 2 (List.take (Tryz.prog.cellsOf 2) (List.drop 1 cs))=some y1:=hf 1 _ rfl
 have e1:Tryz.prog.cellsOf 2=1:=by kernel_rfl
 rw [e1] at g1
 obtain ⟨v1,h1,q1⟩:=hJ Tryz.underlying2 g1
 have g2:DataW.trod enc Tryz.prog W base spare held m 2 (List.take (Tryz.prog.cellsOf 2) (List.drop 2 cs))=some y2:=hf 2 _ rfl
 have e2:Tryz.prog.cellsOf 2=1:=by kernel_rfl
 rw [e2] at g2
 obtain ⟨v2,h2,q2⟩:=hJ Tryz.underlying2 g2
 have hB:Rows.uptoBulk (DataW.agg ([y0,y1,y2].map (·.1)))=Rows.uptoBulk y0.1+Rows.uptoBulk y1.1+Rows.uptoBulk y2.1+1:=by
  simp only [aw,bI,Rows.uptoBulk,Rows.uptoBulkAll]; omega
 have b0:=fJ y0.1; have b1:=fJ y1.1
 match cs,hl with
 | [u0,u1,u2],_ =>
   simp at h0 h1 h2
   subst h0
   subst h1
   subst h2
   refine ⟨⟨v0,v1,v2⟩,.cons (.int _ v0) (.cons (.int _ v1) (.cons (.int _ v2) (.nil))),?_⟩
   rw [hB]
   exact ⟨by omega,q0,q1,q2⟩
theorem O1 (n:Nat) (cs:List Value) (y:DataW Hh×List MemPlace) (h:DataW.trod enc Tryz.prog W base spare held n 61 cs=some y):∃ r:Var,All2 (PR (HW W)) (ETy.var.enc r) cs∧lO (Rows.uptoBulk y.1) r:=by
 obtain ⟨xs,m,_,rfl,hl,hlen,hf⟩:=DataW.trod_struct Tryz.underlying61 h
 have lx:xs.length=5:=hlen
 match xs,lx with
 | [y0,y1,y2,y3,y4],_ =>
 have c0:Tryz.prog.cellsOf 61=7:=by kernel_rfl
 rw [c0] at hl
 have g0:DataW.trod enc Tryz.prog W base spare held m 9 (List.take (Tryz.prog.cellsOf 9) (List.drop 0 cs))=some y0:=hf 0 _ rfl
 have e0:Tryz.prog.cellsOf 9=1:=by kernel_rfl
 rw [e0] at g0
 obtain ⟨v0,h0,q0⟩:=jx Tryz.underlying9 g0
 have g1:DataW.trod enc Tryz.prog W base spare held m 3 (List.take (Tryz.prog.cellsOf 3) (List.drop 1 cs))=some y1:=hf 1 _ rfl
 have e1:Tryz.prog.cellsOf 3=1:=by kernel_rfl
 rw [e1] at g1
 obtain ⟨v1,h1,q1⟩:=hJ Tryz.underlying3 g1
 have g2:DataW.trod enc Tryz.prog W base spare held m 2 (List.take (Tryz.prog.cellsOf 2) (List.drop 2 cs))=some y2:=hf 2 _ rfl
 have e2:Tryz.prog.cellsOf 2=1:=by kernel_rfl
 rw [e2] at g2
 obtain ⟨v2,h2,q2⟩:=hJ Tryz.underlying2 g2
 have g3:DataW.trod enc Tryz.prog W base spare held m 2 (List.take (Tryz.prog.cellsOf 2) (List.drop 3 cs))=some y3:=hf 3 _ rfl
 have e3:Tryz.prog.cellsOf 2=1:=by kernel_rfl
 rw [e3] at g3
 obtain ⟨v3,h3,q3⟩:=hJ Tryz.underlying2 g3
 have g4:DataW.trod enc Tryz.prog W base spare held m 59 (List.take (Tryz.prog.cellsOf 59) (List.drop 4 cs))=some y4:=hf 4 _ rfl
 have e4:Tryz.prog.cellsOf 59=3:=by kernel_rfl
 rw [e4] at g4
 obtain ⟨v4,h4,q4⟩:=OI _ _ _ g4
 have hB:Rows.uptoBulk (DataW.agg ([y0,y1,y2,y3,y4].map (·.1)))=Rows.uptoBulk y0.1+Rows.uptoBulk y1.1+Rows.uptoBulk y2.1+Rows.uptoBulk y3.1+Rows.uptoBulk y4.1+1:=by
  simp only [aw,bI,Rows.uptoBulk,Rows.uptoBulkAll]; omega
 have b0:=fJ y0.1; have b1:=fJ y1.1
 match cs,hl with
 | [u0,u1,u2,u3,u4,u5,u6],_ =>
   simp at h0 h1 h2 h3 h4
   subst h0
   subst h1
   subst h2
   subst h3
   refine ⟨⟨v0,v1,v2,v3,v4⟩,.cons (.str v0) (.cons (.int _ v1) (.cons (.int _ v2) (.cons (.int _ v3) (h4)))),?_⟩
   rw [hB]
   exact ⟨by omega,ay (dp q0) (by omega),q1,q2,q3,pI.up _ _ _ (by omega) q4⟩
theorem wS (n:Nat) (cs:List Value) (y:DataW Hh×List MemPlace) (h:DataW.trod enc Tryz.prog W base spare held n 90 cs=some y):∃ r:Deed,All2 (PR (HW W)) (ETy.deed.enc r) cs∧fm (Rows.uptoBulk y.1) r:=by
 obtain ⟨xs,m,_,rfl,hl,hlen,hf⟩:=DataW.trod_struct Tryz.underlying90 h
 have lx:xs.length=3:=hlen
 match xs,lx with
 | [y0,y1,y2],_ =>
 have c0:Tryz.prog.cellsOf 90=3:=by kernel_rfl
 rw [c0] at hl
 have g0:DataW.trod enc Tryz.prog W base spare held m 3 (List.take (Tryz.prog.cellsOf 3) (List.drop 0 cs))=some y0:=hf 0 _ rfl
 have e0:Tryz.prog.cellsOf 3=1:=by kernel_rfl
 rw [e0] at g0
 obtain ⟨v0,h0,q0⟩:=hJ Tryz.underlying3 g0
 have g1:DataW.trod enc Tryz.prog W base spare held m 9 (List.take (Tryz.prog.cellsOf 9) (List.drop 1 cs))=some y1:=hf 1 _ rfl
 have e1:Tryz.prog.cellsOf 9=1:=by kernel_rfl
 rw [e1] at g1
 obtain ⟨v1,h1,q1⟩:=jx Tryz.underlying9 g1
 have g2:DataW.trod enc Tryz.prog W base spare held m 66 (List.take (Tryz.prog.cellsOf 66) (List.drop 2 cs))=some y2:=hf 2 _ rfl
 have e2:Tryz.prog.cellsOf 66=1:=by kernel_rfl
 rw [e2] at g2
 obtain ⟨v2,w2,h2,p2,n2,q2⟩:=gP .cell gZ gZ.up 2 gZ.wt Tryz.underlying66 (by kernel_rfl) DE g2
 have hB:Rows.uptoBulk (DataW.agg ([y0,y1,y2].map (·.1)))=Rows.uptoBulk y0.1+Rows.uptoBulk y1.1+Rows.uptoBulk y2.1+1:=by
  simp only [aw,bI,Rows.uptoBulk,Rows.uptoBulkAll]; omega
 have b0:=fJ y0.1; have b1:=fJ y1.1
 match cs,hl with
 | [u0,u1,u2],_ =>
   simp at h0 h1 h2
   subst h0
   subst h1
   subst h2
   refine ⟨⟨v0,v1,v2⟩,.cons (.int _ v0) (.cons (.str v1) (.cons p2 (.nil))),?_⟩
   rw [hB]
   exact ⟨by omega,q0,ay (dp q1) (by omega),⟨ay n2 (by omega),fun x hx=>gZ.up _ _ _ (by omega) (q2 x hx)⟩⟩
theorem L7 (n:Nat) (cs:List Value) (y:DataW Hh×List MemPlace) (h:DataW.trod enc Tryz.prog W base spare held n 64 cs=some y):∃ r:Ev.Stat,All2 (PR (HW W)) (ETy.stat.enc r) cs∧jR (Rows.uptoBulk y.1) r:=by
 obtain ⟨xs,m,_,rfl,hl,hlen,hf⟩:=DataW.trod_struct Tryz.underlying64 h
 have lx:xs.length=6:=hlen
 match xs,lx with
 | [y0,y1,y2,y3,y4,y5],_ =>
 have c0:Tryz.prog.cellsOf 64=6:=by kernel_rfl
 rw [c0] at hl
 have g0:DataW.trod enc Tryz.prog W base spare held m 9 (List.take (Tryz.prog.cellsOf 9) (List.drop 0 cs))=some y0:=hf 0 _ rfl
 have e0:Tryz.prog.cellsOf 9=1:=by kernel_rfl
 rw [e0] at g0
 obtain ⟨v0,h0,q0⟩:=jx Tryz.underlying9 g0
 have g1:DataW.trod enc Tryz.prog W base spare held m 3 (List.take (Tryz.prog.cellsOf 3) (List.drop 1 cs))=some y1:=hf 1 _ rfl
 have e1:Tryz.prog.cellsOf 3=1:=by kernel_rfl
 rw [e1] at g1
 obtain ⟨v1,h1,q1⟩:=hJ Tryz.underlying3 g1
 have g2:DataW.trod enc Tryz.prog W base spare held m 3 (List.take (Tryz.prog.cellsOf 3) (List.drop 2 cs))=some y2:=hf 2 _ rfl
 have e2:Tryz.prog.cellsOf 3=1:=by kernel_rfl
 rw [e2] at g2
 obtain ⟨v2,h2,q2⟩:=hJ Tryz.underlying3 g2
 have g3:DataW.trod enc Tryz.prog W base spare held m 9 (List.take (Tryz.prog.cellsOf 9) (List.drop 3 cs))=some y3:=hf 3 _ rfl
 have e3:Tryz.prog.cellsOf 9=1:=by kernel_rfl
 rw [e3] at g3
 obtain ⟨v3,h3,q3⟩:=jx Tryz.underlying9 g3
 have g4:DataW.trod enc Tryz.prog W base spare held m 62 (List.take (Tryz.prog.cellsOf 62) (List.drop 4 cs))=some y4:=hf 4 _ rfl
 have e4:Tryz.prog.cellsOf 62=1:=by kernel_rfl
 rw [e4] at g4
 obtain ⟨v4,w4,h4,p4,n4,q4⟩:=gP .deed fm fm.up 2 fm.wt Tryz.underlying62 (by kernel_rfl) wS g4
 have g5:DataW.trod enc Tryz.prog W base spare held m 62 (List.take (Tryz.prog.cellsOf 62) (List.drop 5 cs))=some y5:=hf 5 _ rfl
 have e5:Tryz.prog.cellsOf 62=1:=by kernel_rfl
 rw [e5] at g5
 obtain ⟨v5,w5,h5,p5,n5,q5⟩:=gP .deed fm fm.up 2 fm.wt Tryz.underlying62 (by kernel_rfl) wS g5
 have hB:Rows.uptoBulk (DataW.agg ([y0,y1,y2,y3,y4,y5].map (·.1)))=Rows.uptoBulk y0.1+Rows.uptoBulk y1.1+Rows.uptoBulk y2.1+Rows.uptoBulk y3.1+Rows.uptoBulk y4.1+Rows.uptoBulk y5.1+1:=by
  simp only [aw,bI,Rows.uptoBulk,Rows.uptoBulkAll]; omega
 have b0:=fJ y0.1; have b1:=fJ y1.1
 match cs,hl with
 | [u0,u1,u2,u3,u4,u5],_ =>
   simp at h0 h1 h2 h3 h4 h5
   subst h0
   subst h1
   subst h2
   subst h3
   subst h4
   subst h5
   refine ⟨⟨v0,v1,v2,v3,v4,v5⟩,.cons (.str v0) (.cons (.int _ v1) (.cons (.int _ v2) (.cons (.str v3) (.cons p4 (.cons p5 (.nil)))))),?_⟩
   rw [hB]
   exact ⟨by omega,ay (dp q0) (by omega),q1,q2,ay (dp q3) (by omega),⟨ay n4 (by omega),fun x hx=>fm.up _ _ _ (by omega) (q4 x hx)⟩,⟨ay n5 (by omega),fun x hx=>fm.up _ _ _ (by omega) (q5 x hx)⟩⟩
theorem ML (n:Nat) (cs:List Value) (y:DataW Hh×List MemPlace) (h:DataW.trod enc Tryz.prog W base spare held n 68 cs=some y):∃ r:Tran,All2 (PR (HW W)) (ETy.tran.enc r) cs∧jT (Rows.uptoBulk y.1) r:=by
 obtain ⟨xs,m,_,rfl,hl,hlen,hf⟩:=DataW.trod_struct Tryz.underlying68 h
 have lx:xs.length=5:=hlen
 match xs,lx with
 | [y0,y1,y2,y3,y4],_ =>
 have c0:Tryz.prog.cellsOf 68=5:=by kernel_rfl
 rw [c0] at hl
 have g0:DataW.trod enc Tryz.prog W base spare held m 3 (List.take (Tryz.prog.cellsOf 3) (List.drop 0 cs))=some y0:=hf 0 _ rfl
 have e0:Tryz.prog.cellsOf 3=1:=by kernel_rfl
 rw [e0] at g0
 obtain ⟨v0,h0,q0⟩:=hJ Tryz.underlying3 g0
 have g1:DataW.trod enc Tryz.prog W base spare held m 9 (List.take (Tryz.prog.cellsOf 9) (List.drop 1 cs))=some y1:=hf 1 _ rfl
 have e1:Tryz.prog.cellsOf 9=1:=by kernel_rfl
 rw [e1] at g1
 obtain ⟨v1,h1,q1⟩:=jx Tryz.underlying9 g1
 have g2:DataW.trod enc Tryz.prog W base spare held m 66 (List.take (Tryz.prog.cellsOf 66) (List.drop 2 cs))=some y2:=hf 2 _ rfl
 have e2:Tryz.prog.cellsOf 66=1:=by kernel_rfl
 rw [e2] at g2
 obtain ⟨v2,w2,h2,p2,n2,q2⟩:=gP .cell gZ gZ.up 2 gZ.wt Tryz.underlying66 (by kernel_rfl) DE g2
 have g3:DataW.trod enc Tryz.prog W base spare held m 9 (List.take (Tryz.prog.cellsOf 9) (List.drop 3 cs))=some y3:=hf 3 _ rfl
 have e3:Tryz.prog.cellsOf 9=1:=by kernel_rfl
 rw [e3] at g3
 obtain ⟨v3,h3,q3⟩:=jx Tryz.underlying9 g3
 have g4:DataW.trod enc Tryz.prog W base spare held m 62 (List.take (Tryz.prog.cellsOf 62) (List.drop 4 cs))=some y4:=hf 4 _ rfl
 have e4:Tryz.prog.cellsOf 62=1:=by kernel_rfl
 rw [e4] at g4
 obtain ⟨v4,w4,h4,p4,n4,q4⟩:=gP .deed fm fm.up 2 fm.wt Tryz.underlying62 (by kernel_rfl) wS g4
 have hB:Rows.uptoBulk (DataW.agg ([y0,y1,y2,y3,y4].map (·.1)))=Rows.uptoBulk y0.1+Rows.uptoBulk y1.1+Rows.uptoBulk y2.1+Rows.uptoBulk y3.1+Rows.uptoBulk y4.1+1:=by
  simp only [aw,bI,Rows.uptoBulk,Rows.uptoBulkAll]; omega
 have b0:=fJ y0.1; have b1:=fJ y1.1
 match cs,hl with
 | [u0,u1,u2,u3,u4],_ =>
   simp at h0 h1 h2 h3 h4
   subst h0
   subst h1
   subst h2
   subst h3
   subst h4
   refine ⟨⟨v0,v1,v2,v3,v4⟩,.cons (.int _ v0) (.cons (.str v1) (.cons p2 (.cons (.str v3) (.cons p4 (.nil))))),?_⟩
   rw [hB]
   exact ⟨by omega,q0,ay (dp q1) (by omega),⟨ay n2 (by omega),fun x hx=>gZ.up _ _ _ (by omega) (q2 x hx)⟩,ay (dp q3) (by omega),⟨ay n4 (by omega),fun x hx=>fm.up _ _ _ (by omega) (q4 x hx)⟩⟩
theorem KT (n:Nat) (cs:List Value) (y:DataW Hh×List MemPlace) (h:DataW.trod enc Tryz.prog W base spare held n 27 cs=some y):∃ r:Chart,All2 (PR (HW W)) (ETy.chart.enc r) cs∧lv (Rows.uptoBulk y.1) r:=by
 obtain ⟨xs,m,_,rfl,hl,hlen,hf⟩:=DataW.trod_struct Tryz.underlying27 h
 have lx:xs.length=5:=hlen
 match xs,lx with
 | [y0,y1,y2,y3,y4],_ =>
 have c0:Tryz.prog.cellsOf 27=5:=by kernel_rfl
 rw [c0] at hl
 have g0:DataW.trod enc Tryz.prog W base spare held m 9 (List.take (Tryz.prog.cellsOf 9) (List.drop 0 cs))=some y0:=hf 0 _ rfl
 have e0:Tryz.prog.cellsOf 9=1:=by kernel_rfl
 rw [e0] at g0
 obtain ⟨v0,h0,q0⟩:=jx Tryz.underlying9 g0
 have g1:DataW.trod enc Tryz.prog W base spare held m 22 (List.take (Tryz.prog.cellsOf 22) (List.drop 1 cs))=some y1:=hf 1 _ rfl
 have e1:Tryz.prog.cellsOf 22=1:=by kernel_rfl
 rw [e1] at g1
 obtain ⟨v1,w1,h1,p1,n1,q1⟩:=gP .str kz kz.up 1 kz.wt Tryz.underlying22 (by kernel_rfl) N7 g1
 have g2:DataW.trod enc Tryz.prog W base spare held m 23 (List.take (Tryz.prog.cellsOf 23) (List.drop 2 cs))=some y2:=hf 2 _ rfl
 have e2:Tryz.prog.cellsOf 23=1:=by kernel_rfl
 rw [e2] at g2
 obtain ⟨v2,w2,h2,p2,n2,q2⟩:=gP .var lO lO.up 2 lO.wt Tryz.underlying23 (by kernel_rfl) O1 g2
 have g3:DataW.trod enc Tryz.prog W base spare held m 24 (List.take (Tryz.prog.cellsOf 24) (List.drop 3 cs))=some y3:=hf 3 _ rfl
 have e3:Tryz.prog.cellsOf 24=1:=by kernel_rfl
 rw [e3] at g3
 obtain ⟨v3,w3,h3,p3,n3,q3⟩:=gP .stat jR jR.up 2 jR.wt Tryz.underlying24 (by kernel_rfl) L7 g3
 have g4:DataW.trod enc Tryz.prog W base spare held m 25 (List.take (Tryz.prog.cellsOf 25) (List.drop 4 cs))=some y4:=hf 4 _ rfl
 have e4:Tryz.prog.cellsOf 25=1:=by kernel_rfl
 rw [e4] at g4
 obtain ⟨v4,w4,h4,p4,n4,q4⟩:=gP .tran jT jT.up 2 jT.wt Tryz.underlying25 (by kernel_rfl) ML g4
 have hB:Rows.uptoBulk (DataW.agg ([y0,y1,y2,y3,y4].map (·.1)))=Rows.uptoBulk y0.1+Rows.uptoBulk y1.1+Rows.uptoBulk y2.1+Rows.uptoBulk y3.1+Rows.uptoBulk y4.1+1:=by
  simp only [aw,bI,Rows.uptoBulk,Rows.uptoBulkAll]; omega
 have b0:=fJ y0.1; have b1:=fJ y1.1
 match cs,hl with
 | [u0,u1,u2,u3,u4],_ =>
   simp at h0 h1 h2 h3 h4
   subst h0
   subst h1
   subst h2
   subst h3
   subst h4
   refine ⟨⟨v0,v1,v2,v3,v4⟩,.cons (.str v0) (.cons p1 (.cons p2 (.cons p3 (.cons p4 (.nil))))),?_⟩
   rw [hB]
   exact ⟨by omega,ay (dp q0) (by omega),⟨ay n1 (by omega),fun x hx=>kz.up _ _ _ (by omega) (q1 x hx)⟩,⟨ay n2 (by omega),fun x hx=>lO.up _ _ _ (by omega) (q2 x hx)⟩,⟨ay n3 (by omega),fun x hx=>jR.up _ _ _ (by omega) (q3 x hx)⟩,⟨ay n4 (by omega),fun x hx=>jT.up _ _ _ (by omega) (q4 x hx)⟩⟩
theorem NI {cs:Array Value} (h:cs.size=5):∃ a b c d e,cs=#[a,b,c,d,e]:=by
 obtain ⟨l⟩:=cs
 match l,h with
 | [a,b,c,d,e],_=>exact ⟨a,b,c,d,e,rfl⟩
theorem IR {v:Value} {d:DataW Hh} {ps:List MemPlace} {b0:Nat} (h:DataW.Trod enc Tryz.prog W base spare held 27 v d ps) (hv:Value.okWide Tryz.prog W .any b0 27 v) :
 ∃ c:Chart,SX.R (VW W) (.e .chart c) v∧lv (Rows.uptoBulk d) c:=by
 simp only [Value.okWide,Tryz.underlying27] at hv
 obtain ⟨cs,rfl,hsz,ts,hts,_,hcs⟩:=hv
 have c26:Tryz.prog.cellsOf 27=5:=by kernel_rfl
 rw [c26] at hsz
 obtain ⟨v1,v2,v3,v4,v5,rfl⟩:=NI hsz
 obtain ⟨fuel,hf⟩:=h
 obtain ⟨c,h1,h2⟩:=KT _ _ _ hf
 have h1':All2 (PR (HW W)) (ETy.chart.enc c) [v1,v2,v3,v4,v5]:=h1
 refine ⟨c,⟨[v1,v2,v3,v4,v5],rfl,?_⟩,h2⟩
 rw [All2.map_left]
 exact h1'
end
end Go.Proofs.YtpfidgnkokidoaaGreatDoor
