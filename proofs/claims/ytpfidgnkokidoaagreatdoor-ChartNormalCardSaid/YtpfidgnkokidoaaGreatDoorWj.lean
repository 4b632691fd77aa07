/- Plain laws: what blocks' texts are made of; what is told is read. Conditions: each theorem's own. Plain: a chart's lines, read. Conditions: none. Contracts: lines parted into words. Conditions: texts of at most 2^21 bytes. Contracts: the document's lines. Conditions: texts of at most 2^21 bytes. Contracts: lines parted into words. Conditions: sizes. Plain: lines put together out of words. Conditions: none. -/
import Derived.Test.YtpfidgnkokidoaaGreatDoorUh
import Derived.Test.YtpfidgnkokidoaaGreatDoorUp
namespace Go.Proofs.YtpfidgnkokidoaaGreatDoor
open Go Go.Ev
set_option maxRecDepth 100000
/-! ### signs -/
def gb (c:UInt8):Bool:=decide (33≤c.toNat)&&decide (c.toNat≤126) && !(c==59)
variable {s:Str} {c:UInt8} {d:Deed} {l:List Cell} {w:Str}
theorem AA (h:fJ c=true):gb c=true∧c≠61∧c≠58:=by
 have h59:c≠59:=fun e=>by subst e; exact absurd h (by decide)
 refine ⟨?_,fun e=>by subst e; exact absurd h (by decide),fun e=>by subst e; exact absurd h (by decide)⟩
 simp only [fJ,aF,ab,decide_eq_true_eq,beq_iff_eq] at h
 simp only [gb,ab,decide_eq_true_eq,aC,beq_eq_false_iff_ne]
 exact ⟨by omega,h59⟩
theorem ob (h:isD c=true):gb c=true:=by
 have h59:c≠59:=fun e=>by subst e; exact absurd h (by decide)
 simp only [isD,ab,decide_eq_true_eq] at h
 simp only [gb,ab,decide_eq_true_eq,aC,beq_eq_false_iff_ne]
 exact ⟨by omega,h59⟩
theorem hJ {α:Type} {p q:α→Bool} {l:List α} (h:l.all p=true) (hpq:∀ x,p x=true→q x=true):l.all q=true :=
 al.2 fun x hx=>hpq x (al.1 h x hx)
theorem kC (h:aO w=true):w.all gb=true:=hJ (fD h).1 fun _ hx=>(AA hx).1
theorem xd (h:cz w=true):w.all gb=true:=by
 unfold cz at h
 cases hp:bm w [100,111,110,101,46]
 · rw [bz,hp,cond_false] at h; exact kC h
 · obtain ⟨r,rfl⟩:=kc hp
   rw [KV] at h
   rw [aQ,kC h]; decide
theorem LJ {c:Bool} {a b:Str×Int} (ha:a.1.all gb=true) (hb:b.1.all gb=true):(bif c then a else b).1.all gb=true:=by
 cases c
 · exact hb
 · exact ha
theorem AG (op:Int):(ax op).1.all gb=true:=by
 unfold ax
 repeat' (with_reducible refine LJ ?_ ?_)
 all_goals decide
theorem rA {b:Str} (p q:Int) (h:b.all gb=true):(cj p b q).all gb=true:=by
 unfold cj
 cases decide (p<q)
 · exact h
 · simp only [cond_true,aQ,h]; decide
theorem Ao {a:Int} (h:0≤a):(Lib.itoa a).all gb=true:=by
 rw [jm h]; exact hJ (fZ a.toNat).1 fun _=>ob
theorem KU {c:Cell} (h:bx c=0):(fj c).all gb=true:=by
 rcases gk h with ⟨a,rfl,h0,h1⟩ | ⟨a,rfl,h0,h1⟩ | rfl | rfl | ⟨n,rfl,hn⟩ | ⟨n,rfl,hn⟩
 · exact Ao h0
 · show (Lib.itoa a++[105]).all gb=true
   rw [aQ,Ao h0]; decide
 · decide
 · decide
 · exact kC hn
 · show ([105,110,40]++n++[41]:Str).all gb=true
   rw [aQ,aQ,kC hn]; decide
theorem oV:∀ t:Tm,t.ok→t.body.all gb=true
 | .leaf c,h=>KU h
 | .un c t,⟨_,ht⟩=>by
   have ih:=oV t ht
   show (unS c.op t.body t.pow).all gb=true
   unfold unS
   cases c.op==9
   · cases c.op==10
     · simp only [cond_false,aQ,AG,rA _ _ ih,Bool.and_self]
     · simp only [cond_false,cond_true,aQ,ih]; decide
   · simp only [cond_true,aQ,ih]; decide
 | .bin c t u,⟨_,ht,hu⟩=>by
   have ih:=oV t ht
   have ihu:=oV u hu
   show (j4 c.op t.body t.pow u.body u.pow).all gb=true
   unfold j4
   simp only [aQ,AG,rA _ _ ih,rA _ _ ihu,Bool.and_self]
theorem Bq (h:cS l=true):(fA l).all gb=true:=by
 obtain ⟨_,t,ht,hf⟩:=mM h
 rw [← hf,ji ht]; exact oV t ht
theorem oY (h:cS l=true):aR (fA l)=(l,0,0):=by
 obtain ⟨hl,t,ht,hf⟩:=mM h
 rw [← hf,ji ht]; exact EF ht (by rw [hf]; exact hl)
theorem qF (h:cA d=true):(eH d).all gb=true:=by
 unfold eH
 cases h1:d.kind==1
 · have g:=xd (lU h h1).2.1
   cases d.kind==2
   · simp only [cond_false,aQ,g]; decide
   · simp only [cond_false,cond_true,aQ,g]; decide
 · obtain ⟨g1,g2,_⟩:=ky h h1
   simp only [cond_true,aQ,kC g1,Bq g2]; decide
theorem NZ (h:s.all gb=true):(59:UInt8) ∉ s:=fun hm=>absurd (al.1 h _ hm) (by decide)
/-! ### told, and read -/
theorem vc:∀ (r:List Str) (x cur:Str),(59:UInt8) ∉ x→(∀ y∈r,(59:UInt8) ∉ y)→ba cur (x++Lib.joinTail [59] r)=(cur++x)::r
 | [],x,cur,hx,_=>by
   have:Lib.joinTail [59] []=[]:=rfl
   rw [this,bt,mf x cur hx]
 | y::r,x,cur,hx,hr=>by
   have e:Lib.joinTail [59] (y::r)=59::(y++Lib.joinTail [59] r):=by simp [Lib.joinTail]
   rw [e,nE x cur _ hx,vc r y [] (hr y az) fun z hz=>hr z (aD _ hz)]; rfl
theorem ES {xs:List Str} (h0:xs≠[]) (h:∀ y∈xs,(59:UInt8) ∉ y):ba [] (Lib.join xs [59])=xs:=by
 cases xs with
 | nil=>exact absurd rfl h0
 | cons x r=>rw [Lib.join_cons,vc r x [] (h x az) fun z hz=>h z (aD _ hz)]; rfl
theorem Gm {n x:Str} (hn:aO n=true):bm (n++61::x) b6=false∧bm (n++61::x) c6=false∧eF (n++61::x)=true∧dp (n++61::x)=n∧b7 (n++61::x)=x:=by
 have hw:=(fD hn).1
 have ha:∀ c∈n,(c==61)=false∧(c==58)=false:=fun c hc=>by
  have:=AA (al.1 hw c hc)
  exact ⟨by simpa using this.2.1,by simpa using this.2.2⟩
 have hk:n.length<(n++61::x).length:=by simp
 have ht:(n++61::x).take n.length=n:=eY
 obtain ⟨g1,g2,g3⟩:=OR (s:=n++61::x) hk (by rw [ht]; exact fun c hc=>(ha c hc).1) (by simp)
 rw [ht] at g2
 have hd:(n++61::x).drop (n.length+1)=x:=by rw [← eX,er]; rfl
 rw [hd] at g3
 have no:∀ (p:Str) (k:Nat),p[k]?=some 58→(61:UInt8) ∉ p→bm (n++61::x) p=false:=by
  intro p k hp hq
  cases h:bm (n++61::x) p
  · rfl
  · exfalso
    obtain ⟨r,hr⟩:=kc h
    have hkl:k<p.length:=(List.getElem?_eq_some_iff.1 hp).1
    by_cases hnk:k<n.length
    · have e1:(n++61::x)[k]?=n[k]?:=List.getElem?_append_left hnk
      rw [hr,List.getElem?_append_left hkl,hp] at e1
      have hm:(58:UInt8)∈n:=List.mem_of_getElem? e1.symm
      have:=(ha _ hm).2
      simp at this
    · have e1:(n++61::x)[n.length]?=some 61:=by rw [List.getElem?_append_right (aw _),gu]; rfl
      rw [hr,List.getElem?_append_left (by omega)] at e1
      exact hq (List.mem_of_getElem? e1)
 exact ⟨no b6 5 rfl (by decide),no c6 4 rfl (by decide),g1,g2,g3⟩
theorem pq (p x:Str):bm (p++x) p=true∧bz (p++x) p=x:=by
 have h:bm (p++x) p=true:=by
  have h1:af (p++x)=((p++x).length:Int):=rfl
  have h2:af p=(p.length:Int):=rfl
  simp only [bm,h1,h2,ab,decide_eq_true_eq,beq_iff_eq,bf,eY,and_true,ag]; omega
 refine ⟨h,?_⟩
 have h2:af p=(p.length:Int):=rfl
 rw [bz,h,cond_true,h2,bf,er]
theorem GW (h:cA d=true):fk (eH d)=some d:=by
 obtain ⟨k,n,l⟩:=d
 cases h1:k==1
 · obtain ⟨h2,h3,h4⟩:=lU h h1
   have h4':l=[]:=h4
   subst h4'
   rcases h2 with h2 | h2
   · have h2':k=2:=h2
     subst h2'
     obtain ⟨g1,g2⟩:=pq b6 n
     show fk (b6++n)=_
     rw [fk,if_pos g1,g2,if_pos h]
   · have h2':k=3:=h2
     subst h2'
     obtain ⟨g1,g2⟩:=pq c6 n
     have g0:bm (c6++n) b6=false:=by
      cases hh:bm (c6++n) b6
      · rfl
      · obtain ⟨r,hr⟩:=kc hh
        have:=congrArg List.head? hr
        simp [c6,b6] at this
     show fk (c6++n)=_
     rw [fk,if_neg (by rw [g0]; simp),if_pos g1,g2,if_pos h]
 · obtain ⟨g1,g2,g3⟩:=ky h h1
   have h1':k=1:=by simpa using h1
   subst h1'
   obtain ⟨e1,e2,e3,e4,e5⟩:=Gm (x:=fA l) g1
   have hp:=oY g2
   have e:eH ⟨1,n,l⟩=n++61::fA l:=by show n++[61]++fA l=_; simp
   rw [e]
   have:=xa e1 e2 e3 (by show (aR _).2.2=0; rw [e5,hp]) (by rw [e4,e5,hp]; exact h)
   rw [this,e4,e5,hp]
theorem pL:∀ l:List Deed,(∀ d∈l,cA d=true)→readAll (l.map eH)=some l
 | [],_=>rfl
 | d::l,h=>by
   simp only [ay,readAll,GW (h d az),pL l fun x hx=>h x (aD _ hx)]
theorem xT {l:List Deed} (h:dy l=true):(gz l).length≤4808:=by
 obtain ⟨h1,_,h3⟩:=jI h
 have:=BF (l.map eH) (fun x hx=>by
  obtain ⟨d,hd',rfl⟩:=bo.1 hx
  exact (qj (h1 d hd')).2.1)
 rw [bD] at this
 show (Lib.join (l.map eH) [59]).length≤_
 omega
theorem uV {l:List Deed} (h:dy l=true):aL (gz l)=(l,0):=by
 obtain ⟨h1,h2,h3⟩:=jI h
 have hp:ba [] (gz l)=l.map eH:=ES (by intro e; rw [List.map_eq_nil_iff] at e; subst e; simp at h2) (fun y hy=>by
  obtain ⟨d,hd,rfl⟩:=bo.1 hy
  exact NZ (qF (h1 d hd)))
 have hl:=xT h
 have hL:af (gz l)=((gz l).length:Int):=rfl
 rw [lR (by omega) (by rw [hp,bD]; omega),hp,pL l h1]
theorem A8 (h:fk s=some d):cA d=true:=by
 unfold fk at h
 split at h
 · split at h
   · rename_i h2; simp only [aa] at h; rw [← h]; exact h2
   · cases h
 · split at h
   · split at h
     · rename_i h2; simp only [aa] at h; rw [← h]; exact h2
     · cases h
   · split at h
     · rename_i h2; simp only [aa] at h; rw [← h]; exact h2.2.2
     · cases h
theorem uz:∀ (ps:List Str) (l:List Deed),readAll ps=some l→l.length=ps.length∧∀ d∈l,cA d=true
 | [],l,h=>by simp only [readAll,aa] at h; subst h; simp
 | p :: r,l,h=>by
   simp only [readAll] at h
   split at h
   · rename_i d m h1 h2
     simp only [aa] at h; subst h
     obtain ⟨g1,g2⟩:=uz r m h2
     exact ⟨by simp [g1],fun x hx=>by rcases aN.1 hx with rfl | hx; exact A8 h1; exact g2 x hx⟩
   · cases h
theorem oO (h:aY s):dy (aL s).1=true:=by
 have h0:(aL s).2=0:=h
 unfold aL at h0 ⊢
 split at h0
 · exact absurd h0 (by decide)
 · rename_i h1
   rw [if_neg h1]
   split at h0
   · exact absurd h0 (by decide)
   · rename_i h2
     rw [if_neg h2]
     split at h0
     · rename_i l hl
       obtain ⟨g1,g2⟩:=uz _ _ hl
       have g3:1≤(ba [] s).length:=by rw [jD]; omega
       simp only [hl]
       simp only [dy,ab,al,decide_eq_true_eq]
       exact ⟨g2,by omega,by omega⟩
     · exact absurd h0 (by decide)
end Go.Proofs.YtpfidgnkokidoaaGreatDoor
namespace Go.Proofs.YtpfidgnkokidoaaGreatDoor
open Go Go.Ev
set_option maxRecDepth 100000
abbrev ir:Str:=[99,104,97,114,116]
abbrev gl:Str:=[101,118,101,110,116]
abbrev nJ:Str:=[105,110,116]
abbrev jL:Str:=[98,111,111,108]
abbrev jH:Str:=[112,111,105,110,116]
abbrev mB:Str:=[98,97,115,105,99]
abbrev oU:Str:=[98,111,116,104]
abbrev mD:Str:=[102,105,110,97,108]
abbrev sZ:Str:=[111,110,101]
abbrev jX:Str:=[115,104,97,108,108,111,119]
abbrev pn:Str:=[100,101,101,112]
abbrev iz:Str:=[101,110,116,114,121]
abbrev iW:Str:=[101,120,105,116]
abbrev wOn:Str:=[111,110]
variable (c:Chart) (d:Int) (w:List Str)
def eG (n:Int):Bool:=d==0&&(c.states.length:Int)==0&&(w.length:Int)==n&&aO (ETy.get .str w 0)
def an (k:Nat):Str:=ETy.get .str w k
def jE:Option Chart:=if eG c d w 1=true then some { c with events:=c.events++[an w 0] } else none
def NT:Var:=⟨an w 0,1,(bb (an w 1)).1,(bb (an w 2)).1,⟨1,(bb (an w 3)).1,0⟩⟩
def nH:Option Chart :=
 if eG c d w 4=true∧(bb (an w 1)).2=0∧(bb (an w 2)).2=0∧(bb (an w 3)).2=0 then some { c with vars:=c.vars++[NT w] } else none
def kj:Option Chart :=
 if eG c d w 2=true∧(an w 1=fm∨an w 1=fS) then some { c with vars:=c.vars++[⟨an w 0,2,0,1,⟨2,if an w 1=fm then 1 else 0,0⟩⟩] } else none
def iV:Int:=match c.states.getLast? with | some s=>s.depth+1 | none=>0
def aM (kind:Int) (n:Nat) (c:Chart) (d:Int) (w:List Str):Option Chart :=
 if d≤iV c∧w.length=n∧aO (an w 0)=true∧aO (an w (n - 1))=true then some { c with states:=c.states++[⟨an w 0,kind,d,if n=2 then an w 1 else [],[],[]⟩] } else none
def dG:Bool:=match c.states.getLast? with | some s=>d==s.depth+1 | none=>false
def dash:Str:=[45]
open Classical in
noncomputable def iu:Option Chart:=match c.states.getLast? with
 | some s=>if d=s.depth+1∧w.length=1∧s.entry=[]∧aY (an w 0) then some { c with states:=c.states.dropLast++[{ s with entry:=(aL (an w 0)).1 }] } else none
 | none=>none
open Classical in
noncomputable def ju:Option Chart:=match c.states.getLast? with
 | some s=>if d=s.depth+1∧w.length=1∧s.leave=[]∧aY (an w 0) then some { c with states:=c.states.dropLast++[{ s with leave:=(aL (an w 0)).1 }] } else none
 | none=>none
open Classical in
noncomputable def onC:Option Chart :=
 if dG c d=true∧w.length=4∧(an w 0=dash∨cz (an w 0)=true)∧(an w 1=dash∨cy (an w 1))∧(an w 2=dash∨aO (an w 2)=true)∧(an w 3=dash∨aY (an w 3)) then
  some { c with trans:=c.trans++[⟨(c.states.length:Int) - 1,if an w 0=dash then [] else an w 0,if an w 1=dash then [] else (aR (an w 1)).1,if an w 2=dash then [] else an w 2,if an w 3=dash then [] else (aL (an w 3)).1⟩] } else none
end Go.Proofs.YtpfidgnkokidoaaGreatDoor
namespace Go.Proofs.YtpfidgnkokidoaaGreatDoor
open Go Go.Ev
set_option maxRecDepth 100000
/-! ### plain -/
variable (s:Str) (Γ:Ctx) (Q:Out) (W:List Str) (c:UInt8) (d:Int)
def fh:Bool:=decide ((c.toNat:Int)>32)&&decide ((c.toNat:Int)<127)
def bI (w:Str):Bool:=!(w==[])&&w.all fh
def cm:Str→List UInt8→List Str
 | cur,[]=>[cur]
 | cur,c::r=>bif (c.toNat:Int)==32 then cur::cm [] r else cm (cur++[c]) r
def bE:List UInt8→Nat
 | []=>0
 | c::r=>bif (c.toNat:Int)==32 then bE r+1 else 0
def bq:List Str:=cm [] (s.drop (bE s))
def gP:Bool:=(bq s).all bI
theorem tl:∀ s:List UInt8,bE s≤s.length
 | []=>aw _
 | c::r=>by
   have:=tl r
   unfold bE
   cases ((c.toNat:Int)==32) <;> simp <;> omega
theorem qy:∀ (rest:List UInt8) (cur:Str),cur.all fh=false→(cm cur rest).all bI=false
 | [],cur,h=>by simp [cm,bI,h]
 | c :: r,cur,h=>by
   unfold cm
   cases ((c.toNat:Int)==32)
   · simp only [cond_false]
     exact qy r (cur++[c]) (by rw [aQ,h]; rfl)
   · simp only [cond_true,aE,bI,h,bA,cl]
theorem qg (rest:List UInt8) (h:fh c=false):(cm [] (c::rest)).all bI=false:=by
 unfold cm
 cases ((c.toNat:Int)==32)
 · simp only [cond_false]
   exact qy rest ([]++[c]) (by simp [h])
 · simp [bI]
theorem jR {c:UInt8} (h:fh c=true):((c.toNat:Int)==32)=false:=by
 simp only [fh,ab,decide_eq_true_eq] at h
 simp; omega
/-! ### the program's line -/
def jM (W:List Str):Out:=fun v ck=>(W.all bI=true→v = .tup [.i d,.c (.own 0),.i 0]∧ck=[.own 9 .str W])∧(W.all bI=false→v = .tup [.i 0,.c (.pd (.v (.slice none 0 0))),.i 1]∧ck=[])
theorem jM.ok {d:Int} {W:List Str} (h:W.all bI=true):jM d W (.tup [.i d,.c (.own 0),.i 0]) [.own 9 .str W]:=⟨fun _=>⟨rfl,rfl⟩,fun h'=>by rw [h] at h'; cases h'⟩
theorem jM.bad {d:Int} {W:List Str} (h:W.all bI=false):jM d W (.tup [.i 0,.c (.pd (.v (.slice none 0 0))),.i 1]) []:=⟨fun h'=>(by rw [h] at h'; cases h'),fun _=>⟨rfl,rfl⟩⟩
theorem KC {n:Nat} (h:n≤3000000):room n 16:=by unfold room maxLen; omega
abbrev zKb1:List PI:=[.code [1,0,3],.inScope [1,0]]
theorem ye (hs:s.length≤2097152):∀ (n k f:Nat) (out:List Str),s.length - k≤n→k≤s.length→f≤k→out.length≤f→out.all bI=true→(seg s f k).all fh=true→out++cm (seg s f k) (s.drop k)=W →
 J Tryz.prog 19 (aH Tryz.f19) Γ (jM d W) zKb1 ({ n:=64,fr:=[(0,.p (.str s)),(2,.i 0),(3,.p (.v (Value.slice none 0 0))),(4,.i 0),(5,.i ((k:Int))),(8,.x (.c (.own 0))),(6,.i d),(7,.i ((f:Int)))],ck:=[.own 9 .str out] }):=by
 intro n
 induction n with
 | zero=>?_
 | succ n ih=>?_
 all_goals
  intro k f out hn hk hf hlen hout hseg hW
  refine jg bH Tryz.func19 (let x1:=(↑((List.getD s k (0:UInt8)).toNat):Int); let x2:=(out++[(aB s (some (f:Int)) (some (k:Int))).2]); let x3:=(IntKind.wrap .i64 ((k:Int)+1)); let x4:=(Value.slice none 0 0); let x5:=((k:Int)<af s); let x6:Tree:=(.ret (.tup [.i 0,.p (.v x4),.i 1]) []); .need (decide x5=true→(0:Int)≤(k:Int)∧(k:Int)<af s) (.need ((decide x5&&decide (x1>32))=true→(0:Int)≤(k:Int)∧(k:Int)<af s) (.ite (decide x5&&decide (x1>32)&&decide (x1<127)) (.stop zKb1 { n:=64,fr:=[(0,.p (.str s)),(2,.i 0),(3,.p (.v x4)),(4,.i 0),(5,.i x3),(8,.x (.c (.own 0))),(6,.i d),(7,.i f)],ck:=[.own 9 .str out] }) (.ite ((k:Int)==(f:Int)) x6 (.need ((0:Int)≤(f:Int)∧(f:Int)≤(k:Int)∧(k:Int)≤(s.length:Int)) (.need (room (x2.length) 16) (.ite ((k:Int)==af s) (.ret (.tup [.i d,.c (.own 0),.i 0]) [.own 9 .str x2]) (.need ((0:Int)≤(k:Int)∧(k:Int)<af s) (.ite (x1 != 32) x6 (.stop zKb1 { n:=64,fr:=[(0,.p (.str s)),(2,.i 0),(3,.p (.v x4)),(4,.i 0),(5,.i x3),(8,.x (.c (.own 0))),(6,.i d),(7,.i x3)],ck:=[.own 9 .str x2] })))))))))) ?_
  conv=>zeta
  have hL:af s=(s.length:Int):=rfl
  have hcut:(aB s (some (f:Int)) (some (k:Int))).2=seg s f k:=rfl
  rw [hcut]
  refine ⟨fun h=>by have:=of_decide_eq_true h; omega,fun h=>by simp only [ab,decide_eq_true_eq] at h; omega,fun h=>?_,fun h=>?_⟩
  · have h':k<s.length∧fh (s.getD k 0)=true:=by
     simp only [ab,decide_eq_true_eq] at h
     refine ⟨by omega,?_⟩
     simp only [fh,ab,decide_eq_true_eq]; exact ⟨h.1.2,h.2⟩
    rw [dY (by omega)]
    first
    | (exfalso; omega)
    | refine ih (k+1) f out (by omega) (by omega) (by omega) hlen hout ?_ ?_
      · rw [jW h'.1 hf,aQ,hseg]; simpa using h'.2
      · rw [← hW,eo h'.1,jW h'.1 hf]
        simp only [cm,jR h'.2,cond_false]
  · have hbad:k<s.length→fh (s.getD k 0)=false:=by
     intro hlt
     cases hg:fh (s.getD k 0)
     · rfl
     · simp only [fh,ab,decide_eq_true_eq] at hg
       have e1:decide ((k:Int)<af s)=true:=decide_eq_true (by omega)
       rw [e1,decide_eq_true hg.1,decide_eq_true hg.2] at h
       simp at h
    refine ⟨fun hkf=>?_,fun hkf=>?_⟩
    · have hkf':k=f:=by
       have:(k:Int)=(f:Int):=by simpa using hkf
       omega
      refine jM.bad ?_
      rw [← hW,aQ,hkf',iH]
      have:(cm [] (s.drop f)).all bI=false:=by
       by_cases hlt:f<s.length
       · rw [eo hlt]; exact qg _ _ (by rw [← hkf'] at hlt ⊢; exact hbad hlt)
       · rw [eT.2 (by omega)]; rfl
      rw [this,bA]
    · have hkf':f<k:=by
       have:(k:Int)≠(f:Int):=by simpa using hkf
       omega
      have hv:bI (seg s f k)=true:=by
       simp only [bI,hseg,c8,aC,beq_eq_false_iff_ne]
       exact OE hkf' hk
      have hout2:(out++[seg s f k]).all bI=true:=by rw [aQ,hout]; simp [hv]
      refine ⟨⟨by omega,by omega,by omega⟩,KC (by rw [ag]; simp; omega),fun he=>?_,fun he=>⟨?_,fun hb=>?_,fun hb=>?_⟩⟩
      · have he':k=s.length:=by
         have:(k:Int)=af s:=by simpa using he
         omega
        have eW:W=out++[seg s f k]:=by rw [← hW,eT.2 (by omega)]; rfl
        rw [eW]
        exact jM.ok hout2
      · have:(k:Int)≠af s:=by simpa using he
        omega
      · have hlt:k<s.length:=by
         have:(k:Int)≠af s:=by simpa using he
         omega
        refine jM.bad ?_
        have hb':(((s.getD k 0).toNat:Int)==32)=false:=by simpa using hb
        rw [← hW,aQ,eo hlt]
        have:(cm (seg s f k) (s.getD k 0::s.drop (k+1))).all bI=false:=by
         simp only [cm,hb',cond_false]
         exact qy _ _ (by rw [aQ,hseg]; simpa using hbad hlt)
        rw [this,bA]
      · have hlt:k<s.length:=by
         have:(k:Int)≠af s:=by simpa using he
         omega
        have hb':(((s.getD k 0).toNat:Int)==32)=true:=by simpa using hb
        rw [dY (by omega)]
        first
        | (exfalso; omega)
        | refine ih (k+1) (k+1) (out++[seg s f k]) (by omega) (by omega) (by omega) (by rw [ag]; simp; omega) hout2 (by rw [iH]; rfl) ?_
          rw [← hW,eo hlt,iH]
          simp only [cm,hb',cond_true,aX,bC,bN]
theorem J.frame {P:Program} {f:FuncId} {root:Code} {Γ:Ctx} {Q:Out} {todo:List PI} {st:ST} {fr':List (Nat×SV)} (h:∀ p∈fr',p∈st.fr) (hk:J P f root Γ Q todo { st with fr:=fr' }):J P f root Γ Q todo st :=
 fun hT V a w r=>hk hT V a w (r.weaken h)
theorem FW (hQ:∀ v ck,jM (bE s:Nat) (bq s) v ck→Q v ck) (hs:s.length≤2097152):∀ (n k:Nat),s.length - k≤n→k≤s.length→bE s=k+bE (s.drop k) →
 J Tryz.prog 19 (aH Tryz.f19) Γ Q [.code [1,0,2],.inScope [1,0]] ({ n:=64,fr:=[(0,.p (.str s)),(2,.i 0),(3,.p (.v (Value.slice none 0 0))),(4,.i 0),(5,.i ((k:Int))),(8,.p (.v (Value.slice none 0 0)))],ck:=[] }):=by
 intro n
 induction n with
 | zero=>?_
 | succ n ih=>?_
 all_goals
  intro k hn hk hlead
  refine jg bH Tryz.func19 (let x1:=(↑((List.getD s k (0:UInt8)).toNat):Int); let x2:=(Value.slice none 0 0); let x3:=(IntKind.wrap .i64 ((k:Int)+1)); let x4:=[(aB s (some (k:Int)) (some (k:Int))).2]; let x6:=((k:Int)<af s); let x5:=(decide x6=true→(0:Int)≤(k:Int)∧(k:Int)<af s); let x7:Tree:=(.ret (.tup [.i 0,.p (.v x2),.i 1]) []); .need x5 (.ite (decide x6&&x1==32) (.stop [.code [1,0,2],.inScope [1,0]] { n:=64,fr:=[(0,.p (.str s)),(2,.i 0),(3,.p (.v x2)),(4,.i 0),(5,.i x3),(8,.p (.v x2))],ck:=[] }) (.need x5 (.need ((decide x6&&decide (x1>32))=true→(0:Int)≤(k:Int)∧(k:Int)<af s) (.ite (decide x6&&decide (x1>32)&&decide (x1<127)) (.stop zKb1 { n:=64,fr:=[(0,.p (.str s)),(2,.i 0),(3,.p (.v x2)),(4,.i 0),(5,.i x3),(8,.p (.v x2)),(6,.i k),(7,.i k)],ck:=[] }) (.ite ((k:Int)==(k:Int)) x7 (.need ((0:Int)≤(k:Int)∧(k:Int)≤(k:Int)∧(k:Int)≤(s.length:Int)) (.need (room (List.length x4) 16) (.ite ((k:Int)==af s) (.ret (.tup [.i k,.c (.own 0),.i 0]) [.own 9 .str x4]) (.need ((0:Int)≤(k:Int)∧(k:Int)<af s) (.ite (x1 != 32) x7 (.stop zKb1 { n:=64,fr:=[(0,.p (.str s)),(2,.i 0),(3,.p (.v x2)),(4,.i 0),(5,.i x3),(8,.x (.c (.own 0))),(6,.i k),(7,.i x3)],ck:=[.own 9 .str x4] })))))))))))) ?_
  conv=>zeta
  have hL:af s=(s.length:Int):=rfl
  refine ⟨fun h=>by have:=of_decide_eq_true h; omega,fun h=>?_,fun h=>⟨fun h=>by have:=of_decide_eq_true h; omega,fun h=>by simp only [ab,decide_eq_true_eq] at h; omega,fun hg=>?_,fun hg=>⟨fun _=>?_,fun hne=>by simp at hne⟩⟩⟩
  · have h':k<s.length∧(((s.getD k 0).toNat:Int)==32)=true:=by
     simp only [ab,decide_eq_true_eq] at h
     exact ⟨by omega,h.2⟩
    have e:bE s=k+1+bE (s.drop (k+1)):=by
     rw [hlead,eo h'.1,bE,h'.2,cond_true]; try omega
    rw [dY (by omega)]
    first
    | (exfalso; omega)
    | exact ih (k+1) (by omega) (by omega) e
  · have h':k<s.length∧fh (s.getD k 0)=true:=by
     simp only [ab,decide_eq_true_eq] at hg
     refine ⟨by omega,?_⟩
     simp only [fh,ab,decide_eq_true_eq]; exact ⟨hg.1.2,hg.2⟩
    have e:bE s=k:=by
     rw [hlead,eo h'.1,bE,jR h'.2,cond_false]; try omega
    refine J.mono hQ (J.nilOwn 8 9 .str rfl rfl ?_)
    have e2:IntKind.i64.wrap ((k:Int)+1)=((k+1:Nat):Int):=by rw [cI (by omega) (by omega)]; omega
    rw [e2]
    have hd:((bE s:Nat):Int)=(k:Int):=by omega
    rw [hd]
    refine ye s Γ _ (k:Int) hs s.length (k+1) k [] (by omega) (by omega) (by omega) (by simp) rfl ?_ ?_
    · rw [jW h'.1 (aw _),iH]; simpa using h'.2
    · rw [bq,e,eo (k:=k) h'.1,jW h'.1 (aw _),iH]
      simp only [cm,jR h'.2,cond_false,bN]
  · refine hQ _ _ (jM.bad ?_)
    have hnb:k<s.length→(((s.getD k 0).toNat:Int)==32)=false:=by
     intro hlt
     cases hb:(((s.getD k 0).toNat:Int)==32)
     · rfl
     · have e1:decide ((k:Int)<af s)=true:=decide_eq_true (by omega)
       rw [e1,hb] at h; cases h
    have hng:k<s.length→fh (s.getD k 0)=false:=by
     intro hlt
     cases hg':fh (s.getD k 0)
     · rfl
     · simp only [fh,ab,decide_eq_true_eq] at hg'
       have e1:decide ((k:Int)<af s)=true:=decide_eq_true (by omega)
       rw [e1,decide_eq_true hg'.1,decide_eq_true hg'.2] at hg
       simp at hg
    by_cases hlt:k<s.length
    · have e:bE s=k:=by
       rw [hlead,eo hlt,bE,hnb hlt,cond_false]; try omega
      rw [bq,e,eo hlt]
      exact qg _ _ (hng hlt)
    · have e:bE s=s.length:=by
       rw [hlead,eT.2 (by omega)]; simp [bE]; omega
      rw [bq,e,List.drop_length]; rfl
theorem vu (hQ:∀ v ck,jM (bE s:Nat) (bq s) v ck→Q v ck) (hs:s.length≤2097152):J Tryz.prog 19 (aH Tryz.f19) Γ Q [.code []] (cL Tryz.f19.ntmps [.s s] []):=by
 refine jg bH Tryz.func19 (let x1:=(↑((List.getD s 0 (0:UInt8)).toNat):Int); let x2:=(Value.slice none 0 0); let x3:=(IntKind.wrap .i64 ((0:Int)+1)); let x4:=[(aB s (some (0:Int)) (some (0:Int))).2]; let x5:=((0:Int)<af s); let x6:=(decide x5=true→(0:Int)≤0∧(0:Int)<af s); let x7:Tree:=(.ret (.tup [.i 0,.p (.v x2),.i 1]) []); .need x6 (.ite (decide x5&&x1==32) (.stop [.code [1,0,2],.inScope [1,0]] { n:=64,fr:=[(0,.p (.str s)),(2,.i 0),(3,.p (.v x2)),(4,.i 0),(5,.i x3),(8,.p (.v x2))],ck:=[] }) (.need x6 (.need ((decide x5&&decide (x1>32))=true→(0:Int)≤0∧(0:Int)<af s) (.ite (decide x5&&decide (x1>32)&&decide (x1<127)) (.stop zKb1 { n:=64,fr:=[(0,.p (.str s)),(2,.i 0),(3,.p (.v x2)),(4,.i 0),(5,.i x3),(6,.i 0),(7,.i 0),(8,.p (.v x2))],ck:=[] }) (.ite true x7 (.need ((0:Int)≤0∧(0:Int)≤0∧(0:Int)≤(s.length:Int)) (.need (room (List.length x4) 16) (.ite ((0:Int)==af s) (.ret (.tup [.i 0,.c (.own 0),.i 0]) [.own 9 .str x4]) (.need ((0:Int)≤0∧(0:Int)<af s) (.ite (x1 != 32) x7 (.stop zKb1 { n:=64,fr:=[(0,.p (.str s)),(2,.i 0),(3,.p (.v x2)),(4,.i 0),(5,.i x3),(6,.i 0),(7,.i x3),(8,.x (.c (.own 0)))],ck:=[.own 9 .str x4] })))))))))))) ?_
 conv=>zeta
 have hlead:bE s=0+bE (s.drop 0):=by simp
 have hL:af s=(s.length:Int):=rfl
 refine ⟨fun h=>by have:=of_decide_eq_true h; omega,fun h=>?_,fun h=>⟨fun h=>by have:=of_decide_eq_true h; omega,fun h=>by simp only [ab,decide_eq_true_eq] at h; omega,fun hg=>?_,fun hg=>⟨fun _=>?_,fun hne=>by simp at hne⟩⟩⟩
 · have h':0<s.length∧(((s.getD 0 0).toNat:Int)==32)=true:=by
    simp only [ab,decide_eq_true_eq] at h
    exact ⟨by omega,h.2⟩
   have e:bE s=0+1+bE (s.drop (0+1)):=by
    rw [hlead,eo h'.1,bE,h'.2,cond_true]; try omega
   exact FW s Γ Q hQ hs s.length 1 (by omega) (by omega) e
 · have h':0<s.length∧fh (s.getD 0 0)=true:=by
    simp only [ab,decide_eq_true_eq] at hg
    refine ⟨by omega,?_⟩
    simp only [fh,ab,decide_eq_true_eq]; exact ⟨hg.1.2,hg.2⟩
   have e:bE s=0:=by
    rw [hlead,eo h'.1,bE,jR h'.2,cond_false]; try omega
   refine J.mono hQ (J.nilOwn 8 9 .str rfl rfl ?_)
   have e2:IntKind.i64.wrap ((0:Int)+1)=((0+1:Nat):Int):=by rw [cI (by omega) (by omega)]; omega
   rw [e2]
   have hd:((bE s:Nat):Int)=(0:Int):=by omega
   rw [hd]
   refine J.frame (fun p hp=>?_) (ye s Γ _ (0:Int) hs s.length (0+1) 0 [] (by omega) (by omega) (by omega) (by simp) rfl ?_ ?_)
   · simp only [aN,List.not_mem_nil,or_false] at hp
     rcases hp with rfl | rfl | rfl | rfl | rfl | rfl | rfl | rfl <;> repeat (first | exact List.Mem.head _ | apply List.Mem.tail)
   · rw [jW h'.1 (aw _),iH]; simpa using h'.2
   · rw [bq,e,eo (k:=0) h'.1,jW h'.1 (aw _),iH]
     simp only [cm,jR h'.2,cond_false,bN]
 · refine hQ _ _ (jM.bad ?_)
   have hnb:0<s.length→(((s.getD 0 0).toNat:Int)==32)=false:=by
    intro hlt
    cases hb:(((s.getD 0 0).toNat:Int)==32)
    · rfl
    · have e1:decide ((0:Int)<af s)=true:=decide_eq_true (by omega)
      rw [e1,hb] at h; cases h
   have hng:0<s.length→fh (s.getD 0 0)=false:=by
    intro hlt
    cases hg':fh (s.getD 0 0)
    · rfl
    · simp only [fh,ab,decide_eq_true_eq] at hg'
      have e1:decide ((0:Int)<af s)=true:=decide_eq_true (by omega)
      rw [e1,decide_eq_true hg'.1,decide_eq_true hg'.2] at hg
      simp at hg
   by_cases hlt:0<s.length
   · have e:bE s=0:=by
      rw [hlead,eo hlt,bE,hnb hlt,cond_false]; try omega
     rw [bq,e,eo hlt]
     exact qg _ _ (hng hlt)
   · have e:bE s=s.length:=by
      rw [hlead,eT.2 (by omega)]; simp [bE]; omega
     rw [bq,e,List.drop_length]; rfl
theorem Mw (hs:s.length≤2097152) (h:gP s=true):ak Tryz.prog 19 [.s s] [] (.tup [.i (bE s:Nat),.c (.own 0),.i 0]) [.own 9 .str (bq s)] :=
 ak.of Tryz.func19 (by kernel_rfl) (by kernel_rfl) fun Γ=>vu s Γ _ (fun v ck q=>q.1 h) hs
theorem JU (hs:s.length≤2097152) (h:gP s=false):ak Tryz.prog 19 [.s s] [] (.tup [.i 0,.c (.pd (.v (.slice none 0 0))),.i 1]) [] :=
 ak.of Tryz.func19 (by kernel_rfl) (by kernel_rfl) fun Γ=>vu s Γ _ (fun v ck q=>q.2 h) hs
end Go.Proofs.YtpfidgnkokidoaaGreatDoor
namespace Go.Proofs.YtpfidgnkokidoaaGreatDoor
open Go Go.Ev
set_option maxRecDepth 100000
theorem oP:∀ (rest:List UInt8) (cur:Str),∀ w∈cm cur rest,w.length≤cur.length+rest.length
 | [],cur,w,h=>by simp [cm] at h; subst h; simp
 | c :: r,cur,w,h=>by
   unfold cm at h
   cases hc:((c.toNat:Int)==32)
   · rw [hc,cond_false] at h
     have:=oP r (cur++[c]) w h
     simp only [ag,ah,aj] at this ⊢; omega
   · rw [hc,cond_true] at h
     rcases aN.1 h with rfl | h
     · simp
     · have:=oP r [] w h
       simp only [ah,aj] at this ⊢; omega
end Go.Proofs.YtpfidgnkokidoaaGreatDoor
namespace Go.Proofs.YtpfidgnkokidoaaGreatDoor
open Go Go.Ev
set_option maxRecDepth 100000
def DO:Ent:=(19,fun
 | [.c (.pd (.str s))],[]=>some (some (s.length≤2097152∧gP s=true),.tup [.c (.pd (.int .i64 ((bE s:Nat):Int))),.c (.own 0),.c (.pd (.int .i64 0))],[.own 9 .str (bq s)])
 | _,_=>none)
theorem L0:EntOk Tryz.prog DO:=entOk fun vs ck=>by
 unfold DO; dsimp only; split
 · rename_i s; exact entS fun hp=>Mw s hp.1 hp.2
 · exact entN
def Eb:Ent:=(19,fun
 | [.c (.pd (.str s))],[]=>some (some (s.length≤2097152∧gP s=false),.tup [.c (.pd (.int .i64 0)),.c (.pd (.v (.slice none 0 0))),.c (.pd (.int .i64 1))],[])
 | _,_=>none)
theorem L9:EntOk Tryz.prog Eb:=entOk fun vs ck=>by
 unfold Eb; dsimp only; split
 · rename_i s; exact entS fun hp=>JU s hp.1 hp.2
 · exact entN
end Go.Proofs.YtpfidgnkokidoaaGreatDoor
namespace Go.Proofs.YtpfidgnkokidoaaGreatDoor
open Go Go.Ev
set_option maxRecDepth 100000
/-! ### plain -/
def glue (l:List Str):Str:=l.flatMap fun w=>32::w
def cr:List Str→Str
 | []=>[]
 | w::r=>w++glue r
theorem AR (cur:Str):∀ rest,cm cur rest≠[]:=by
 intro rest
 induction rest generalizing cur with
 | nil=>simp [cm]
 | cons c r ih =>
   unfold cm
   cases ((c.toNat:Int)==32)
   · exact ih _
   · simp
variable {l:List Str} (n:Nat) (s:Str)
theorem Hs (h:l≠[]):glue l=32::cr l:=by
 cases l with
 | nil=>exact absurd rfl h
 | cons w r=>simp [glue,cr]
theorem Jf {c:UInt8} (h:((c.toNat:Int)==32)=true):c=32:=by
 have h':(c.toNat:Int)=32:=by simpa using h
 have h2:c.toNat=32:=by omega
 exact gp.1 (by rw [h2]; rfl)
theorem oL:∀ (rest:List UInt8) (cur:Str),cr (cm cur rest)=cur++rest
 | [],cur=>by simp [cm,cr,glue]
 | c :: r,cur=>by
   unfold cm
   cases hb:((c.toNat:Int)==32)
   · simp only [cond_false]
     rw [oL r (cur++[c])]; simp
   · simp only [cond_true,cr]
     rw [Hs (AR [] r),oL r [],Jf hb]; rfl
theorem Ac:bq s≠[]:=AR _ _
theorem Gw:s.take (bE s)++cr (bq s)=s:=by
 rw [bq,oL,bN,dJ]
def dW:Str:=List.replicate n 32
theorem oH:∀ (w:Str) (cur rest:List UInt8),w.all fh=true→cm cur (w++rest)=cm (cur++w) rest
 | [],cur,rest,_=>by simp
 | c::w,cur,rest,h=>by
   simp only [aE,ab] at h
   rw [bC,cm,jR h.1,cond_false,oH w (cur++[c]) rest h.2]; simp
theorem uj:∀ (l:List Str) (cur:Str),l.all bI=true→cm cur (glue l)=cur::l
 | [],cur,_=>rfl
 | w::r,cur,h=>by
   simp only [aE,ab] at h
   have hw:w.all fh=true:=by simp only [bI,ab] at h; exact h.1.2
   have e:glue (w::r)=32::(w++glue r):=by simp [glue]
   have hb:(((32:UInt8).toNat:Int)==32)=true:=by decide
   rw [e,cm,hb,cond_true,oH w [] _ hw,bN,uj r w h.2]
theorem E5 (hl:l≠[]) (h:l.all bI=true):cm [] (cr l)=l:=by
 cases l with
 | nil=>exact absurd rfl hl
 | cons w r =>
   simp only [aE,ab] at h
   have hw:w.all fh=true:=by simp only [bI,ab] at h; exact h.1.2
   rw [cr,oH w [] _ hw,bN,uj r w h.2]
theorem sr (r:List UInt8) (h:bE r=0):∀ n,bE (dW n++r)=n
 | 0=>by simpa [dW] using h
 | n+1=>by
   have hb:(((32:UInt8).toNat:Int)==32)=true:=by decide
   have e:dW (n+1)++r=32::(dW n++r):=by simp [dW,List.replicate_succ]
   rw [e,bE,hb,cond_true,sr r h n]
theorem Hm (hl:l≠[]) (h:l.all bI=true):bE (cr l)=0:=by
 cases l with
 | nil=>exact absurd rfl hl
 | cons w r =>
   simp only [aE,ab,bI] at h
   cases w with
   | nil=>simp at h
   | cons c w =>
     have hc:fh c=true:=by have:=h.1.2; simp only [aE,ab] at this; exact this.1
     rw [cr,bC,bE,jR hc,cond_false]
theorem uK (hl:l≠[]) (h:l.all bI=true):bE (dW n++cr l)=n∧bq (dW n++cr l)=l:=by
 have e:=sr (cr l) (Hm hl h) n
 refine ⟨e,?_⟩
 rw [bq,e]
 have:(dW n++cr l).drop n=cr l:=by simp [dW]
 rw [this,E5 hl h]
end Go.Proofs.YtpfidgnkokidoaaGreatDoor
