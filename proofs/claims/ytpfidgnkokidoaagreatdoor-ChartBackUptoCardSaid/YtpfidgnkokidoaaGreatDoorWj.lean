/- Plain laws: what blocks' texts are made of; what is told is read. Conditions: each theorem's own. Plain: a chart's lines, read. Conditions: none. Contracts: lines parted into words. Conditions: texts of at most 2^21 bytes. Contracts: the document's lines. Conditions: texts of at most 2^21 bytes. Contracts: lines parted into words. Conditions: sizes. Plain: lines put together out of words. Conditions: none. -/
import Derived.Test.YtpfidgnkokidoaaGreatDoorUh
import Derived.Test.YtpfidgnkokidoaaGreatDoorUq
import Derived.Test.YtpfidgnkokidoaaGreatDoorNa
namespace Go.Proofs.YtpfidgnkokidoaaGreatDoor
open Go Go.Ev
set_option maxRecDepth 100000
/-! ### signs -/
def gb (c:UInt8):Bool:=decide (33≤c.toNat)&&decide (c.toNat≤126) && !(c==59)
variable {s:Str} {c:UInt8} {d:Deed} {l:List Cell} {w:Str}
theorem Bt (h:fI c=true):gb c=true∧c≠61∧c≠58:=by
 have h59:c≠59:=fun e=>by subst e; exact absurd h (by decide)
 refine ⟨?_,fun e=>by subst e; exact absurd h (by decide),fun e=>by subst e; exact absurd h (by decide)⟩
 simp only [fI,aH,ab,decide_eq_true_eq,beq_iff_eq] at h
 simp only [gb,ab,decide_eq_true_eq,aD,beq_eq_false_iff_ne]
 exact ⟨by omega,h59⟩
theorem oe (h:isD c=true):gb c=true:=by
 have h59:c≠59:=fun e=>by subst e; exact absurd h (by decide)
 simp only [isD,ab,decide_eq_true_eq] at h
 simp only [gb,ab,decide_eq_true_eq,aD,beq_eq_false_iff_ne]
 exact ⟨by omega,h59⟩
theorem ij {α:Type} {p q:α→Bool} {l:List α} (h:l.all p=true) (hpq:∀ x,p x=true→q x=true):l.all q=true :=
 al.2 fun x hx=>hpq x (al.1 h x hx)
theorem kM (h:aP w=true):w.all gb=true:=ij (fF h).1 fun _ hx=>(Bt hx).1
theorem yg (h:cA w=true):w.all gb=true:=by
 unfold cA at h
 cases hp:bo w [100,111,110,101,46]
 · rw [bC,hp,cond_false] at h; exact kM h
 · obtain ⟨r,rfl⟩:=kC hp
   rw [K4] at h
   rw [aR,kM h]; decide
theorem MY {c:Bool} {a b:Str×Int} (ha:a.1.all gb=true) (hb:b.1.all gb=true):(bif c then a else b).1.all gb=true:=by
 cases c
 · exact hb
 · exact ha
theorem BB (op:Int):(ax op).1.all gb=true:=by
 unfold ax
 repeat' (with_reducible refine MY ?_ ?_)
 all_goals decide
theorem qg {b:Str} (p q:Int) (h:b.all gb=true):(cj p b q).all gb=true:=by
 unfold cj
 cases decide (p<q)
 · exact h
 · simp only [cond_true,aR,h]; decide
theorem Bc {a:Int} (h:0≤a):(Lib.itoa a).all gb=true:=by
 rw [jo h]; exact ij (gg a.toNat).1 fun _=>oe
theorem Kc {c:Cell} (h:bA c=0):(fq c).all gb=true:=by
 rcases gp h with ⟨a,rfl,h0,h1⟩ | ⟨a,rfl,h0,h1⟩ | rfl | rfl | ⟨n,rfl,hn⟩ | ⟨n,rfl,hn⟩
 · exact Bc h0
 · show (Lib.itoa a++[105]).all gb=true
   rw [aR,Bc h0]; decide
 · decide
 · decide
 · exact kM hn
 · show ([105,110,40]++n++[41]:Str).all gb=true
   rw [aR,aR,kM hn]; decide
theorem pH:∀ t:Tm,t.ok→t.body.all gb=true
 | .leaf c,h=>Kc h
 | .un c t,⟨_,ht⟩=>by
   have ih:=pH t ht
   show (unS c.op t.body t.pow).all gb=true
   unfold unS
   cases c.op==9
   · cases c.op==10
     · simp only [cond_false,aR,BB,qg _ _ ih,Bool.and_self]
     · simp only [cond_false,cond_true,aR,ih]; decide
   · simp only [cond_true,aR,ih]; decide
 | .bin c t u,⟨_,ht,hu⟩=>by
   have ih:=pH t ht
   have ihu:=pH u hu
   show (km c.op t.body t.pow u.body u.pow).all gb=true
   unfold km
   simp only [aR,BB,qg _ _ ih,qg _ _ ihu,Bool.and_self]
theorem BZ (h:cS l=true):(fD l).all gb=true:=by
 obtain ⟨_,t,ht,hf⟩:=mL h
 rw [← hf,jt ht]; exact pH t ht
theorem pq (h:cS l=true):aS (fD l)=(l,0,0):=by
 obtain ⟨hl,t,ht,hf⟩:=mL h
 rw [← hf,jt ht]; exact DW ht (by rw [hf]; exact hl)
theorem ql (h:cB d=true):(eI d).all gb=true:=by
 unfold eI
 cases h1:d.kind==1
 · have g:=yg (lW h h1).2.1
   cases d.kind==2
   · simp only [cond_false,aR,g]; decide
   · simp only [cond_false,cond_true,aR,g]; decide
 · obtain ⟨g1,g2,_⟩:=kp h h1
   simp only [cond_true,aR,kM g1,BZ g2]; decide
theorem N3 (h:s.all gb=true):(59:UInt8) ∉ s:=fun hm=>absurd (al.1 h _ hm) (by decide)
/-! ### told, and read -/
theorem vU:∀ (r:List Str) (x cur:Str),(59:UInt8) ∉ x→(∀ y∈r,(59:UInt8) ∉ y)→bf cur (x++Lib.joinTail [59] r)=(cur++x)::r
 | [],x,cur,hx,_=>by
   have:Lib.joinTail [59] []=[]:=rfl
   rw [this,bu,mY x cur hx]
 | y::r,x,cur,hx,hr=>by
   have e:Lib.joinTail [59] (y::r)=59::(y++Lib.joinTail [59] r):=by simp [Lib.joinTail]
   rw [e,nY x cur _ hx,vU r y [] (hr y aA) fun z hz=>hr z (aE _ hz)]; rfl
theorem EG {xs:List Str} (h0:xs≠[]) (h:∀ y∈xs,(59:UInt8) ∉ y):bf [] (Lib.join xs [59])=xs:=by
 cases xs with
 | nil=>exact absurd rfl h0
 | cons x r=>rw [Lib.join_cons,vU r x [] (h x aA) fun z hz=>h z (aE _ hz)]; rfl
theorem Iq {n x:Str} (hn:aP n=true):bo (n++61::x) b7=false∧bo (n++61::x) c7=false∧eJ (n++61::x)=true∧dr (n++61::x)=n∧b8 (n++61::x)=x:=by
 have hw:=(fF hn).1
 have ha:∀ c∈n,(c==61)=false∧(c==58)=false:=fun c hc=>by
  have:=Bt (al.1 hw c hc)
  exact ⟨by simpa using this.2.1,by simpa using this.2.2⟩
 have hk:n.length<(n++61::x).length:=by simp
 have ht:(n++61::x).take n.length=n:=eY
 obtain ⟨g1,g2,g3⟩:=Pd (s:=n++61::x) hk (by rw [ht]; exact fun c hc=>(ha c hc).1) (by simp)
 rw [ht] at g2
 have hd:(n++61::x).drop (n.length+1)=x:=by rw [← eX,ew]; rfl
 rw [hd] at g3
 have no:∀ (p:Str) (k:Nat),p[k]?=some 58→(61:UInt8) ∉ p→bo (n++61::x) p=false:=by
  intro p k hp hq
  cases h:bo (n++61::x) p
  · rfl
  · exfalso
    obtain ⟨r,hr⟩:=kC h
    have hkl:k<p.length:=(List.getElem?_eq_some_iff.1 hp).1
    by_cases hnk:k<n.length
    · have e1:(n++61::x)[k]?=n[k]?:=List.getElem?_append_left hnk
      rw [hr,List.getElem?_append_left hkl,hp] at e1
      have hm:(58:UInt8)∈n:=List.mem_of_getElem? e1.symm
      have:=(ha _ hm).2
      simp at this
    · have e1:(n++61::x)[n.length]?=some 61:=by rw [List.getElem?_append_right (av _),gA]; rfl
      rw [hr,List.getElem?_append_left (by omega)] at e1
      exact hq (List.mem_of_getElem? e1)
 exact ⟨no b7 5 rfl (by decide),no c7 4 rfl (by decide),g1,g2,g3⟩
theorem o6 (p x:Str):bo (p++x) p=true∧bC (p++x) p=x:=by
 have h:bo (p++x) p=true:=by
  have h1:af (p++x)=((p++x).length:Int):=rfl
  have h2:af p=(p.length:Int):=rfl
  simp only [bo,h1,h2,ab,decide_eq_true_eq,beq_iff_eq,bj,eY,and_true,ag]; omega
 refine ⟨h,?_⟩
 have h2:af p=(p.length:Int):=rfl
 rw [bC,h,cond_true,h2,bj,ew]
theorem Im (h:cB d=true):ft (eI d)=some d:=by
 obtain ⟨k,n,l⟩:=d
 cases h1:k==1
 · obtain ⟨h2,h3,h4⟩:=lW h h1
   have h4':l=[]:=h4
   subst h4'
   rcases h2 with h2 | h2
   · have h2':k=2:=h2
     subst h2'
     obtain ⟨g1,g2⟩:=o6 b7 n
     show ft (b7++n)=_
     rw [ft,if_pos g1,g2,if_pos h]
   · have h2':k=3:=h2
     subst h2'
     obtain ⟨g1,g2⟩:=o6 c7 n
     have g0:bo (c7++n) b7=false:=by
      cases hh:bo (c7++n) b7
      · rfl
      · obtain ⟨r,hr⟩:=kC hh
        have:=congrArg List.head? hr
        simp [c7,b7] at this
     show ft (c7++n)=_
     rw [ft,if_neg (by rw [g0]; simp),if_pos g1,g2,if_pos h]
 · obtain ⟨g1,g2,g3⟩:=kp h h1
   have h1':k=1:=by simpa using h1
   subst h1'
   obtain ⟨e1,e2,e3,e4,e5⟩:=Iq (x:=fD l) g1
   have hp:=pq g2
   have e:eI ⟨1,n,l⟩=n++61::fD l:=by show n++[61]++fD l=_; simp
   rw [e]
   have:=xD e1 e2 e3 (by show (aS _).2.2=0; rw [e5,hp]) (by rw [e4,e5,hp]; exact h)
   rw [this,e4,e5,hp]
theorem pZ:∀ l:List Deed,(∀ d∈l,cB d=true)→readAll (l.map eI)=some l
 | [],_=>rfl
 | d::l,h=>by
   simp only [aw,readAll,Im (h d aA),pZ l fun x hx=>h x (aE _ hx)]
theorem xm {l:List Deed} (h:dA l=true):(gD l).length≤4808:=by
 obtain ⟨h1,_,h3⟩:=jN h
 have:=A9 (l.map eI) (fun x hx=>by
  obtain ⟨d,hd',rfl⟩:=ba.1 hx
  exact (qH (h1 d hd')).2.1)
 rw [bz] at this
 show (Lib.join (l.map eI) [59]).length≤_
 omega
theorem uS {l:List Deed} (h:dA l=true):aM (gD l)=(l,0):=by
 obtain ⟨h1,h2,h3⟩:=jN h
 have hp:bf [] (gD l)=l.map eI:=EG (by intro e; rw [List.map_eq_nil_iff] at e; subst e; simp at h2) (fun y hy=>by
  obtain ⟨d,hd,rfl⟩:=ba.1 hy
  exact N3 (ql (h1 d hd)))
 have hl:=xm h
 have hL:af (gD l)=((gD l).length:Int):=rfl
 rw [mc (by omega) (by rw [hp,bz]; omega),hp,pZ l h1]
theorem As (h:ft s=some d):cB d=true:=by
 unfold ft at h
 split at h
 · split at h
   · rename_i h2; simp only [aa] at h; rw [← h]; exact h2
   · cases h
 · split at h
   · split at h
     · rename_i h2; simp only [aa] at h; rw [← h]; exact h2
     · cases h
   · split at h
     · rename_i h2; simp only [aa] at h; rw [← h]; exact h2.2.2
     · cases h
theorem uq:∀ (ps:List Str) (l:List Deed),readAll ps=some l→l.length=ps.length∧∀ d∈l,cB d=true
 | [],l,h=>by simp only [readAll,aa] at h; subst h; simp
 | p :: r,l,h=>by
   simp only [readAll] at h
   split at h
   · rename_i d m h1 h2
     simp only [aa] at h; subst h
     obtain ⟨g1,g2⟩:=uq r m h2
     exact ⟨by simp [g1],fun x hx=>by rcases aO.1 hx with rfl | hx; exact As h1; exact g2 x hx⟩
   · cases h
theorem oY (h:aZ s):dA (aM s).1=true:=by
 have h0:(aM s).2=0:=h
 unfold aM at h0 ⊢
 split at h0
 · exact absurd h0 (by decide)
 · rename_i h1
   rw [if_neg h1]
   split at h0
   · exact absurd h0 (by decide)
   · rename_i h2
     rw [if_neg h2]
     split at h0
     · rename_i l hl
       obtain ⟨g1,g2⟩:=uq _ _ hl
       have g3:1≤(bf [] s).length:=by rw [jI]; omega
       simp only [hl]
       simp only [dA,ab,al,decide_eq_true_eq]
       exact ⟨g2,by omega,by omega⟩
     · exact absurd h0 (by decide)
end Go.Proofs.YtpfidgnkokidoaaGreatDoor
namespace Go.Proofs.YtpfidgnkokidoaaGreatDoor
open Go Go.Ev
set_option maxRecDepth 100000
abbrev iy:Str:=[99,104,97,114,116]
abbrev gx:Str:=[101,118,101,110,116]
abbrev nZ:Str:=[105,110,116]
abbrev jP:Str:=[98,111,111,108]
abbrev jL:Str:=[112,111,105,110,116]
abbrev mU:Str:=[98,97,115,105,99]
abbrev oZ:Str:=[98,111,116,104]
abbrev my:Str:=[102,105,110,97,108]
abbrev tA:Str:=[111,110,101]
abbrev jX:Str:=[115,104,97,108,108,111,119]
abbrev oV:Str:=[100,101,101,112]
abbrev iz:Str:=[101,110,116,114,121]
abbrev jc:Str:=[101,120,105,116]
abbrev wOn:Str:=[111,110]
variable (c:Chart) (d:Int) (w:List Str)
def eK (n:Int):Bool:=d==0&&(c.states.length:Int)==0&&(w.length:Int)==n&&aP (ETy.get .str w 0)
def an (k:Nat):Str:=ETy.get .str w k
def jH:Option Chart:=if eK c d w 1=true then some { c with events:=c.events++[an w 0] } else none
def N4:Var:=⟨an w 0,1,(bg (an w 1)).1,(bg (an w 2)).1,⟨1,(bg (an w 3)).1,0⟩⟩
def nG:Option Chart :=
 if eK c d w 4=true∧(bg (an w 1)).2=0∧(bg (an w 2)).2=0∧(bg (an w 3)).2=0 then some { c with vars:=c.vars++[N4 w] } else none
def kB:Option Chart :=
 if eK c d w 2=true∧(an w 1=fp∨an w 1=fY) then some { c with vars:=c.vars++[⟨an w 0,2,0,1,⟨2,if an w 1=fp then 1 else 0,0⟩⟩] } else none
def jb:Int:=match c.states.getLast? with | some s=>s.depth+1 | none=>0
def aN (kind:Int) (n:Nat) (c:Chart) (d:Int) (w:List Str):Option Chart :=
 if d≤jb c∧w.length=n∧aP (an w 0)=true∧aP (an w (n - 1))=true then some { c with states:=c.states++[⟨an w 0,kind,d,if n=2 then an w 1 else [],[],[]⟩] } else none
def dJ:Bool:=match c.states.getLast? with | some s=>d==s.depth+1 | none=>false
def dash:Str:=[45]
open Classical in
noncomputable def ix:Option Chart:=match c.states.getLast? with
 | some s=>if d=s.depth+1∧w.length=1∧s.entry=[]∧aZ (an w 0) then some { c with states:=c.states.dropLast++[{ s with entry:=(aM (an w 0)).1 }] } else none
 | none=>none
open Classical in
noncomputable def jC:Option Chart:=match c.states.getLast? with
 | some s=>if d=s.depth+1∧w.length=1∧s.leave=[]∧aZ (an w 0) then some { c with states:=c.states.dropLast++[{ s with leave:=(aM (an w 0)).1 }] } else none
 | none=>none
open Classical in
noncomputable def onC:Option Chart :=
 if dJ c d=true∧w.length=4∧(an w 0=dash∨cA (an w 0)=true)∧(an w 1=dash∨cz (an w 1))∧(an w 2=dash∨aP (an w 2)=true)∧(an w 3=dash∨aZ (an w 3)) then
  some { c with trans:=c.trans++[⟨(c.states.length:Int) - 1,if an w 0=dash then [] else an w 0,if an w 1=dash then [] else (aS (an w 1)).1,if an w 2=dash then [] else an w 2,if an w 3=dash then [] else (aM (an w 3)).1⟩] } else none
end Go.Proofs.YtpfidgnkokidoaaGreatDoor
namespace Go.Proofs.YtpfidgnkokidoaaGreatDoor
open Go Go.Ev
set_option maxRecDepth 100000
/-! ### plain -/
variable (s:Str) (Γ:Ctx) (Q:Out) (W:List Str) (c:UInt8) (d:Int)
def fg:Bool:=decide ((c.toNat:Int)>32)&&decide ((c.toNat:Int)<127)
def bK (w:Str):Bool:=!(w==[])&&w.all fg
def cq:Str→List UInt8→List Str
 | cur,[]=>[cur]
 | cur,c::r=>bif (c.toNat:Int)==32 then cur::cq [] r else cq (cur++[c]) r
def bF:List UInt8→Nat
 | []=>0
 | c::r=>bif (c.toNat:Int)==32 then bF r+1 else 0
def bq:List Str:=cq [] (s.drop (bF s))
def gW:Bool:=(bq s).all bK
theorem tu:∀ s:List UInt8,bF s≤s.length
 | []=>av _
 | c::r=>by
   have:=tu r
   unfold bF
   cases ((c.toNat:Int)==32) <;> simp <;> omega
theorem qy:∀ (rest:List UInt8) (cur:Str),cur.all fg=false→(cq cur rest).all bK=false
 | [],cur,h=>by simp [cq,bK,h]
 | c :: r,cur,h=>by
   unfold cq
   cases ((c.toNat:Int)==32)
   · simp only [cond_false]
     exact qy r (cur++[c]) (by rw [aR,h]; rfl)
   · simp only [cond_true,aF,bK,h,bB,cl]
theorem qW (rest:List UInt8) (h:fg c=false):(cq [] (c::rest)).all bK=false:=by
 unfold cq
 cases ((c.toNat:Int)==32)
 · simp only [cond_false]
   exact qy rest ([]++[c]) (by simp [h])
 · simp [bK]
theorem j0 {c:UInt8} (h:fg c=true):((c.toNat:Int)==32)=false:=by
 simp only [fg,ab,decide_eq_true_eq] at h
 simp; omega
/-! ### the program's line -/
def jQ (W:List Str):Out:=fun v ck=>(W.all bK=true→v = .tup [.i d,.c (.own 0),.i 0]∧ck=[.own 9 .str W])∧(W.all bK=false→v = .tup [.i 0,.c (.pd (.v (.slice none 0 0))),.i 1]∧ck=[])
theorem jQ.ok {d:Int} {W:List Str} (h:W.all bK=true):jQ d W (.tup [.i d,.c (.own 0),.i 0]) [.own 9 .str W]:=⟨fun _=>⟨rfl,rfl⟩,fun h'=>by rw [h] at h'; cases h'⟩
theorem jQ.bad {d:Int} {W:List Str} (h:W.all bK=false):jQ d W (.tup [.i 0,.c (.pd (.v (.slice none 0 0))),.i 1]) []:=⟨fun h'=>(by rw [h] at h'; cases h'),fun _=>⟨rfl,rfl⟩⟩
theorem K3 {n:Nat} (h:n≤3000000):room n 16:=by unfold room maxLen; omega
abbrev zKb1:List PI:=[.code [1,0,3],.inScope [1,0]]
theorem yj (hs:s.length≤2097152):∀ (n k f:Nat) (out:List Str),s.length - k≤n→k≤s.length→f≤k→out.length≤f→out.all bK=true→(seg s f k).all fg=true→out++cq (seg s f k) (s.drop k)=W →
 J Tryz.prog 19 (aI Tryz.f19) Γ (jQ d W) zKb1 ({ n:=64,fr:=[(0,.p (.str s)),(2,.i 0),(3,.p (.v (Value.slice none 0 0))),(4,.i 0),(5,.i ((k:Int))),(8,.x (.c (.own 0))),(6,.i d),(7,.i ((f:Int)))],ck:=[.own 9 .str out] }):=by
 intro n
 induction n with
 | zero=>?_
 | succ n ih=>?_
 all_goals
  intro k f out hn hk hf hlen hout hseg hW
  refine jg bG Tryz.func19 (let x1:=(↑((List.getD s k (0:UInt8)).toNat):Int); let x2:=(out++[(aC s (some (f:Int)) (some (k:Int))).2]); let x3:=(IntKind.wrap .i64 ((k:Int)+1)); let x4:=(Value.slice none 0 0); let x5:=((k:Int)<af s); let x6:Tree:=(.ret (.tup [.i 0,.p (.v x4),.i 1]) []); .need (decide x5=true→(0:Int)≤(k:Int)∧(k:Int)<af s) (.need ((decide x5&&decide (x1>32))=true→(0:Int)≤(k:Int)∧(k:Int)<af s) (.ite (decide x5&&decide (x1>32)&&decide (x1<127)) (.stop zKb1 { n:=64,fr:=[(0,.p (.str s)),(2,.i 0),(3,.p (.v x4)),(4,.i 0),(5,.i x3),(8,.x (.c (.own 0))),(6,.i d),(7,.i f)],ck:=[.own 9 .str out] }) (.ite ((k:Int)==(f:Int)) x6 (.need ((0:Int)≤(f:Int)∧(f:Int)≤(k:Int)∧(k:Int)≤(s.length:Int)) (.need (room (x2.length) 16) (.ite ((k:Int)==af s) (.ret (.tup [.i d,.c (.own 0),.i 0]) [.own 9 .str x2]) (.need ((0:Int)≤(k:Int)∧(k:Int)<af s) (.ite (x1 != 32) x6 (.stop zKb1 { n:=64,fr:=[(0,.p (.str s)),(2,.i 0),(3,.p (.v x4)),(4,.i 0),(5,.i x3),(8,.x (.c (.own 0))),(6,.i d),(7,.i x3)],ck:=[.own 9 .str x2] })))))))))) ?_
  conv=>zeta
  have hL:af s=(s.length:Int):=rfl
  have hcut:(aC s (some (f:Int)) (some (k:Int))).2=seg s f k:=rfl
  rw [hcut]
  refine ⟨fun h=>by have:=of_decide_eq_true h; omega,fun h=>by simp only [ab,decide_eq_true_eq] at h; omega,fun h=>?_,fun h=>?_⟩
  · have h':k<s.length∧fg (s.getD k 0)=true:=by
     simp only [ab,decide_eq_true_eq] at h
     refine ⟨by omega,?_⟩
     simp only [fg,ab,decide_eq_true_eq]; exact ⟨h.1.2,h.2⟩
    rw [ee (by omega)]
    first
    | (exfalso; omega)
    | refine ih (k+1) f out (by omega) (by omega) (by omega) hlen hout ?_ ?_
      · rw [j4 h'.1 hf,aR,hseg]; simpa using h'.2
      · rw [← hW,eA h'.1,j4 h'.1 hf]
        simp only [cq,j0 h'.2,cond_false]
  · have hbad:k<s.length→fg (s.getD k 0)=false:=by
     intro hlt
     cases hg:fg (s.getD k 0)
     · rfl
     · simp only [fg,ab,decide_eq_true_eq] at hg
       have e1:decide ((k:Int)<af s)=true:=decide_eq_true (by omega)
       rw [e1,decide_eq_true hg.1,decide_eq_true hg.2] at h
       simp at h
    refine ⟨fun hkf=>?_,fun hkf=>?_⟩
    · have hkf':k=f:=by
       have:(k:Int)=(f:Int):=by simpa using hkf
       omega
      refine jQ.bad ?_
      rw [← hW,aR,hkf',iI]
      have:(cq [] (s.drop f)).all bK=false:=by
       by_cases hlt:f<s.length
       · rw [eA hlt]; exact qW _ _ (by rw [← hkf'] at hlt ⊢; exact hbad hlt)
       · rw [eV.2 (by omega)]; rfl
      rw [this,bB]
    · have hkf':f<k:=by
       have:(k:Int)≠(f:Int):=by simpa using hkf
       omega
      have hv:bK (seg s f k)=true:=by
       simp only [bK,hseg,c8,aD,beq_eq_false_iff_ne]
       exact Of hkf' hk
      have hout2:(out++[seg s f k]).all bK=true:=by rw [aR,hout]; simp [hv]
      refine ⟨⟨by omega,by omega,by omega⟩,K3 (by rw [ag]; simp; omega),fun he=>?_,fun he=>⟨?_,fun hb=>?_,fun hb=>?_⟩⟩
      · have he':k=s.length:=by
         have:(k:Int)=af s:=by simpa using he
         omega
        have eW:W=out++[seg s f k]:=by rw [← hW,eV.2 (by omega)]; rfl
        rw [eW]
        exact jQ.ok hout2
      · have:(k:Int)≠af s:=by simpa using he
        omega
      · have hlt:k<s.length:=by
         have:(k:Int)≠af s:=by simpa using he
         omega
        refine jQ.bad ?_
        have hb':(((s.getD k 0).toNat:Int)==32)=false:=by simpa using hb
        rw [← hW,aR,eA hlt]
        have:(cq (seg s f k) (s.getD k 0::s.drop (k+1))).all bK=false:=by
         simp only [cq,hb',cond_false]
         exact qy _ _ (by rw [aR,hseg]; simpa using hbad hlt)
        rw [this,bB]
      · have hlt:k<s.length:=by
         have:(k:Int)≠af s:=by simpa using he
         omega
        have hb':(((s.getD k 0).toNat:Int)==32)=true:=by simpa using hb
        rw [ee (by omega)]
        first
        | (exfalso; omega)
        | refine ih (k+1) (k+1) (out++[seg s f k]) (by omega) (by omega) (by omega) (by rw [ag]; simp; omega) hout2 (by rw [iI]; rfl) ?_
          rw [← hW,eA hlt,iI]
          simp only [cq,hb',cond_true,aY,bE,bP]
theorem J.frame {P:Program} {f:FuncId} {root:Code} {Γ:Ctx} {Q:Out} {todo:List PI} {st:ST} {fr':List (Nat×SV)} (h:∀ p∈fr',p∈st.fr) (hk:J P f root Γ Q todo { st with fr:=fr' }):J P f root Γ Q todo st :=
 fun hT V a w r=>hk hT V a w (r.weaken h)
theorem Fc (hQ:∀ v ck,jQ (bF s:Nat) (bq s) v ck→Q v ck) (hs:s.length≤2097152):∀ (n k:Nat),s.length - k≤n→k≤s.length→bF s=k+bF (s.drop k) →
 J Tryz.prog 19 (aI Tryz.f19) Γ Q [.code [1,0,2],.inScope [1,0]] ({ n:=64,fr:=[(0,.p (.str s)),(2,.i 0),(3,.p (.v (Value.slice none 0 0))),(4,.i 0),(5,.i ((k:Int))),(8,.p (.v (Value.slice none 0 0)))],ck:=[] }):=by
 intro n
 induction n with
 | zero=>?_
 | succ n ih=>?_
 all_goals
  intro k hn hk hlead
  refine jg bG Tryz.func19 (let x1:=(↑((List.getD s k (0:UInt8)).toNat):Int); let x2:=(Value.slice none 0 0); let x3:=(IntKind.wrap .i64 ((k:Int)+1)); let x4:=[(aC s (some (k:Int)) (some (k:Int))).2]; let x6:=((k:Int)<af s); let x5:=(decide x6=true→(0:Int)≤(k:Int)∧(k:Int)<af s); let x7:Tree:=(.ret (.tup [.i 0,.p (.v x2),.i 1]) []); .need x5 (.ite (decide x6&&x1==32) (.stop [.code [1,0,2],.inScope [1,0]] { n:=64,fr:=[(0,.p (.str s)),(2,.i 0),(3,.p (.v x2)),(4,.i 0),(5,.i x3),(8,.p (.v x2))],ck:=[] }) (.need x5 (.need ((decide x6&&decide (x1>32))=true→(0:Int)≤(k:Int)∧(k:Int)<af s) (.ite (decide x6&&decide (x1>32)&&decide (x1<127)) (.stop zKb1 { n:=64,fr:=[(0,.p (.str s)),(2,.i 0),(3,.p (.v x2)),(4,.i 0),(5,.i x3),(8,.p (.v x2)),(6,.i k),(7,.i k)],ck:=[] }) (.ite ((k:Int)==(k:Int)) x7 (.need ((0:Int)≤(k:Int)∧(k:Int)≤(k:Int)∧(k:Int)≤(s.length:Int)) (.need (room (List.length x4) 16) (.ite ((k:Int)==af s) (.ret (.tup [.i k,.c (.own 0),.i 0]) [.own 9 .str x4]) (.need ((0:Int)≤(k:Int)∧(k:Int)<af s) (.ite (x1 != 32) x7 (.stop zKb1 { n:=64,fr:=[(0,.p (.str s)),(2,.i 0),(3,.p (.v x2)),(4,.i 0),(5,.i x3),(8,.x (.c (.own 0))),(6,.i k),(7,.i x3)],ck:=[.own 9 .str x4] })))))))))))) ?_
  conv=>zeta
  have hL:af s=(s.length:Int):=rfl
  refine ⟨fun h=>by have:=of_decide_eq_true h; omega,fun h=>?_,fun h=>⟨fun h=>by have:=of_decide_eq_true h; omega,fun h=>by simp only [ab,decide_eq_true_eq] at h; omega,fun hg=>?_,fun hg=>⟨fun _=>?_,fun hne=>by simp at hne⟩⟩⟩
  · have h':k<s.length∧(((s.getD k 0).toNat:Int)==32)=true:=by
     simp only [ab,decide_eq_true_eq] at h
     exact ⟨by omega,h.2⟩
    have e:bF s=k+1+bF (s.drop (k+1)):=by
     rw [hlead,eA h'.1,bF,h'.2,cond_true]; try omega
    rw [ee (by omega)]
    first
    | (exfalso; omega)
    | exact ih (k+1) (by omega) (by omega) e
  · have h':k<s.length∧fg (s.getD k 0)=true:=by
     simp only [ab,decide_eq_true_eq] at hg
     refine ⟨by omega,?_⟩
     simp only [fg,ab,decide_eq_true_eq]; exact ⟨hg.1.2,hg.2⟩
    have e:bF s=k:=by
     rw [hlead,eA h'.1,bF,j0 h'.2,cond_false]; try omega
    refine J.mono hQ (J.nilOwn 8 9 .str rfl rfl ?_)
    have e2:IntKind.i64.wrap ((k:Int)+1)=((k+1:Nat):Int):=by rw [cG (by omega) (by omega)]; omega
    rw [e2]
    have hd:((bF s:Nat):Int)=(k:Int):=by omega
    rw [hd]
    refine yj s Γ _ (k:Int) hs s.length (k+1) k [] (by omega) (by omega) (by omega) (by simp) rfl ?_ ?_
    · rw [j4 h'.1 (av _),iI]; simpa using h'.2
    · rw [bq,e,eA (k:=k) h'.1,j4 h'.1 (av _),iI]
      simp only [cq,j0 h'.2,cond_false,bP]
  · refine hQ _ _ (jQ.bad ?_)
    have hnb:k<s.length→(((s.getD k 0).toNat:Int)==32)=false:=by
     intro hlt
     cases hb:(((s.getD k 0).toNat:Int)==32)
     · rfl
     · have e1:decide ((k:Int)<af s)=true:=decide_eq_true (by omega)
       rw [e1,hb] at h; cases h
    have hng:k<s.length→fg (s.getD k 0)=false:=by
     intro hlt
     cases hg':fg (s.getD k 0)
     · rfl
     · simp only [fg,ab,decide_eq_true_eq] at hg'
       have e1:decide ((k:Int)<af s)=true:=decide_eq_true (by omega)
       rw [e1,decide_eq_true hg'.1,decide_eq_true hg'.2] at hg
       simp at hg
    by_cases hlt:k<s.length
    · have e:bF s=k:=by
       rw [hlead,eA hlt,bF,hnb hlt,cond_false]; try omega
      rw [bq,e,eA hlt]
      exact qW _ _ (hng hlt)
    · have e:bF s=s.length:=by
       rw [hlead,eV.2 (by omega)]; simp [bF]; omega
      rw [bq,e,List.drop_length]; rfl
theorem vV (hQ:∀ v ck,jQ (bF s:Nat) (bq s) v ck→Q v ck) (hs:s.length≤2097152):J Tryz.prog 19 (aI Tryz.f19) Γ Q [.code []] (cN Tryz.f19.ntmps [.s s] []):=by
 refine jg bG Tryz.func19 (let x1:=(↑((List.getD s 0 (0:UInt8)).toNat):Int); let x2:=(Value.slice none 0 0); let x3:=(IntKind.wrap .i64 ((0:Int)+1)); let x4:=[(aC s (some (0:Int)) (some (0:Int))).2]; let x5:=((0:Int)<af s); let x6:=(decide x5=true→(0:Int)≤0∧(0:Int)<af s); let x7:Tree:=(.ret (.tup [.i 0,.p (.v x2),.i 1]) []); .need x6 (.ite (decide x5&&x1==32) (.stop [.code [1,0,2],.inScope [1,0]] { n:=64,fr:=[(0,.p (.str s)),(2,.i 0),(3,.p (.v x2)),(4,.i 0),(5,.i x3),(8,.p (.v x2))],ck:=[] }) (.need x6 (.need ((decide x5&&decide (x1>32))=true→(0:Int)≤0∧(0:Int)<af s) (.ite (decide x5&&decide (x1>32)&&decide (x1<127)) (.stop zKb1 { n:=64,fr:=[(0,.p (.str s)),(2,.i 0),(3,.p (.v x2)),(4,.i 0),(5,.i x3),(6,.i 0),(7,.i 0),(8,.p (.v x2))],ck:=[] }) (.ite true x7 (.need ((0:Int)≤0∧(0:Int)≤0∧(0:Int)≤(s.length:Int)) (.need (room (List.length x4) 16) (.ite ((0:Int)==af s) (.ret (.tup [.i 0,.c (.own 0),.i 0]) [.own 9 .str x4]) (.need ((0:Int)≤0∧(0:Int)<af s) (.ite (x1 != 32) x7 (.stop zKb1 { n:=64,fr:=[(0,.p (.str s)),(2,.i 0),(3,.p (.v x2)),(4,.i 0),(5,.i x3),(6,.i 0),(7,.i x3),(8,.x (.c (.own 0)))],ck:=[.own 9 .str x4] })))))))))))) ?_
 conv=>zeta
 have hlead:bF s=0+bF (s.drop 0):=by simp
 have hL:af s=(s.length:Int):=rfl
 refine ⟨fun h=>by have:=of_decide_eq_true h; omega,fun h=>?_,fun h=>⟨fun h=>by have:=of_decide_eq_true h; omega,fun h=>by simp only [ab,decide_eq_true_eq] at h; omega,fun hg=>?_,fun hg=>⟨fun _=>?_,fun hne=>by simp at hne⟩⟩⟩
 · have h':0<s.length∧(((s.getD 0 0).toNat:Int)==32)=true:=by
    simp only [ab,decide_eq_true_eq] at h
    exact ⟨by omega,h.2⟩
   have e:bF s=0+1+bF (s.drop (0+1)):=by
    rw [hlead,eA h'.1,bF,h'.2,cond_true]; try omega
   exact Fc s Γ Q hQ hs s.length 1 (by omega) (by omega) e
 · have h':0<s.length∧fg (s.getD 0 0)=true:=by
    simp only [ab,decide_eq_true_eq] at hg
    refine ⟨by omega,?_⟩
    simp only [fg,ab,decide_eq_true_eq]; exact ⟨hg.1.2,hg.2⟩
   have e:bF s=0:=by
    rw [hlead,eA h'.1,bF,j0 h'.2,cond_false]; try omega
   refine J.mono hQ (J.nilOwn 8 9 .str rfl rfl ?_)
   have e2:IntKind.i64.wrap ((0:Int)+1)=((0+1:Nat):Int):=by rw [cG (by omega) (by omega)]; omega
   rw [e2]
   have hd:((bF s:Nat):Int)=(0:Int):=by omega
   rw [hd]
   refine J.frame (fun p hp=>?_) (yj s Γ _ (0:Int) hs s.length (0+1) 0 [] (by omega) (by omega) (by omega) (by simp) rfl ?_ ?_)
   · simp only [aO,List.not_mem_nil,or_false] at hp
     rcases hp with rfl | rfl | rfl | rfl | rfl | rfl | rfl | rfl <;> repeat (first | exact List.Mem.head _ | apply List.Mem.tail)
   · rw [j4 h'.1 (av _),iI]; simpa using h'.2
   · rw [bq,e,eA (k:=0) h'.1,j4 h'.1 (av _),iI]
     simp only [cq,j0 h'.2,cond_false,bP]
 · refine hQ _ _ (jQ.bad ?_)
   have hnb:0<s.length→(((s.getD 0 0).toNat:Int)==32)=false:=by
    intro hlt
    cases hb:(((s.getD 0 0).toNat:Int)==32)
    · rfl
    · have e1:decide ((0:Int)<af s)=true:=decide_eq_true (by omega)
      rw [e1,hb] at h; cases h
   have hng:0<s.length→fg (s.getD 0 0)=false:=by
    intro hlt
    cases hg':fg (s.getD 0 0)
    · rfl
    · simp only [fg,ab,decide_eq_true_eq] at hg'
      have e1:decide ((0:Int)<af s)=true:=decide_eq_true (by omega)
      rw [e1,decide_eq_true hg'.1,decide_eq_true hg'.2] at hg
      simp at hg
   by_cases hlt:0<s.length
   · have e:bF s=0:=by
      rw [hlead,eA hlt,bF,hnb hlt,cond_false]; try omega
     rw [bq,e,eA hlt]
     exact qW _ _ (hng hlt)
   · have e:bF s=s.length:=by
      rw [hlead,eV.2 (by omega)]; simp [bF]; omega
     rw [bq,e,List.drop_length]; rfl
theorem MV (hs:s.length≤2097152) (h:gW s=true):ak Tryz.prog 19 [.s s] [] (.tup [.i (bF s:Nat),.c (.own 0),.i 0]) [.own 9 .str (bq s)] :=
 ak.of Tryz.func19 (by kernel_rfl) (by kernel_rfl) fun Γ=>vV s Γ _ (fun v ck q=>q.1 h) hs
theorem Jj (hs:s.length≤2097152) (h:gW s=false):ak Tryz.prog 19 [.s s] [] (.tup [.i 0,.c (.pd (.v (.slice none 0 0))),.i 1]) [] :=
 ak.of Tryz.func19 (by kernel_rfl) (by kernel_rfl) fun Γ=>vV s Γ _ (fun v ck q=>q.2 h) hs
end Go.Proofs.YtpfidgnkokidoaaGreatDoor
namespace Go.Proofs.YtpfidgnkokidoaaGreatDoor
open Go Go.Ev
set_option maxRecDepth 100000
theorem pj:∀ (rest:List UInt8) (cur:Str),∀ w∈cq cur rest,w.length≤cur.length+rest.length
 | [],cur,w,h=>by simp [cq] at h; subst h; simp
 | c :: r,cur,w,h=>by
   unfold cq at h
   cases hc:((c.toNat:Int)==32)
   · rw [hc,cond_false] at h
     have:=pj r (cur++[c]) w h
     simp only [ag,ah,aj] at this ⊢; omega
   · rw [hc,cond_true] at h
     rcases aO.1 h with rfl | h
     · simp
     · have:=pj r [] w h
       simp only [ah,aj] at this ⊢; omega
end Go.Proofs.YtpfidgnkokidoaaGreatDoor
namespace Go.Proofs.YtpfidgnkokidoaaGreatDoor
open Go Go.Ev
set_option maxRecDepth 100000
def DP:Ent:=(19,fun
 | [.c (.pd (.str s))],[]=>some (some (s.length≤2097152∧gW s=true),.tup [.c (.pd (.int .i64 ((bF s:Nat):Int))),.c (.own 0),.c (.pd (.int .i64 0))],[.own 9 .str (bq s)])
 | _,_=>none)
theorem Nt:EntOk Tryz.prog DP:=entOk fun vs ck=>by
 unfold DP; dsimp only; split
 · rename_i s; exact entS fun hp=>MV s hp.1 hp.2
 · exact entN
def F3:Ent:=(19,fun
 | [.c (.pd (.str s))],[]=>some (some (s.length≤2097152∧gW s=false),.tup [.c (.pd (.int .i64 0)),.c (.pd (.v (.slice none 0 0))),.c (.pd (.int .i64 1))],[])
 | _,_=>none)
theorem ME:EntOk Tryz.prog F3:=entOk fun vs ck=>by
 unfold F3; dsimp only; split
 · rename_i s; exact entS fun hp=>Jj s hp.1 hp.2
 · exact entN
end Go.Proofs.YtpfidgnkokidoaaGreatDoor
namespace Go.Proofs.YtpfidgnkokidoaaGreatDoor
open Go Go.Ev
set_option maxRecDepth 100000
/-! ### plain -/
def glue (l:List Str):Str:=l.flatMap fun w=>32::w
def cr:List Str→Str
 | []=>[]
 | w::r=>w++glue r
theorem Aw (cur:Str):∀ rest,cq cur rest≠[]:=by
 intro rest
 induction rest generalizing cur with
 | nil=>simp [cq]
 | cons c r ih =>
   unfold cq
   cases ((c.toNat:Int)==32)
   · exact ih _
   · simp
variable {l:List Str} (n:Nat) (s:Str)
theorem Gy (h:l≠[]):glue l=32::cr l:=by
 cases l with
 | nil=>exact absurd rfl h
 | cons w r=>simp [glue,cr]
theorem IY {c:UInt8} (h:((c.toNat:Int)==32)=true):c=32:=by
 have h':(c.toNat:Int)=32:=by simpa using h
 have h2:c.toNat=32:=by omega
 exact gr.1 (by rw [h2]; rfl)
theorem o3:∀ (rest:List UInt8) (cur:Str),cr (cq cur rest)=cur++rest
 | [],cur=>by simp [cq,cr,glue]
 | c :: r,cur=>by
   unfold cq
   cases hb:((c.toNat:Int)==32)
   · simp only [cond_false]
     rw [o3 r (cur++[c])]; simp
   · simp only [cond_true,cr]
     rw [Gy (Aw [] r),o3 r [],IY hb]; rfl
theorem BF:bq s≠[]:=Aw _ _
theorem IX:s.take (bF s)++cr (bq s)=s:=by
 rw [bq,o3,bP,dG]
def dY:Str:=List.replicate n 32
theorem pF:∀ (w:Str) (cur rest:List UInt8),w.all fg=true→cq cur (w++rest)=cq (cur++w) rest
 | [],cur,rest,_=>by simp
 | c::w,cur,rest,h=>by
   simp only [aF,ab] at h
   rw [bE,cq,j0 h.1,cond_false,pF w (cur++[c]) rest h.2]; simp
theorem uL:∀ (l:List Str) (cur:Str),l.all bK=true→cq cur (glue l)=cur::l
 | [],cur,_=>rfl
 | w::r,cur,h=>by
   simp only [aF,ab] at h
   have hw:w.all fg=true:=by simp only [bK,ab] at h; exact h.1.2
   have e:glue (w::r)=32::(w++glue r):=by simp [glue]
   have hb:(((32:UInt8).toNat:Int)==32)=true:=by decide
   rw [e,cq,hb,cond_true,pF w [] _ hw,bP,uL r w h.2]
theorem Fx (hl:l≠[]) (h:l.all bK=true):cq [] (cr l)=l:=by
 cases l with
 | nil=>exact absurd rfl hl
 | cons w r =>
   simp only [aF,ab] at h
   have hw:w.all fg=true:=by simp only [bK,ab] at h; exact h.1.2
   rw [cr,pF w [] _ hw,bP,uL r w h.2]
theorem sF (r:List UInt8) (h:bF r=0):∀ n,bF (dY n++r)=n
 | 0=>by simpa [dY] using h
 | n+1=>by
   have hb:(((32:UInt8).toNat:Int)==32)=true:=by decide
   have e:dY (n+1)++r=32::(dY n++r):=by simp [dY,List.replicate_succ]
   rw [e,bF,hb,cond_true,sF r h n]
theorem Gm (hl:l≠[]) (h:l.all bK=true):bF (cr l)=0:=by
 cases l with
 | nil=>exact absurd rfl hl
 | cons w r =>
   simp only [aF,ab,bK] at h
   cases w with
   | nil=>simp at h
   | cons c w =>
     have hc:fg c=true:=by have:=h.1.2; simp only [aF,ab] at this; exact this.1
     rw [cr,bE,bF,j0 hc,cond_false]
theorem uJ (hl:l≠[]) (h:l.all bK=true):bF (dY n++cr l)=n∧bq (dY n++cr l)=l:=by
 have e:=sF (cr l) (Gm hl h) n
 refine ⟨e,?_⟩
 rw [bq,e]
 have:(dY n++cr l).drop n=cr l:=by simp [dY]
 rw [this,Fx hl h]
end Go.Proofs.YtpfidgnkokidoaaGreatDoor
