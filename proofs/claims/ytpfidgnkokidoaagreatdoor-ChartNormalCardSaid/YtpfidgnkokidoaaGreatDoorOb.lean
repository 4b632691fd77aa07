/- The contract of the program's expr.Show. Conditions: none. -/
import Derived.Test.YtpfidgnkokidoaaGreatDoorOa
import Derived.Test.YtpfidgnkokidoaaGreatDoorUp
import Derived.Test.YtpfidgnkokidoaaGreatDoorMd
namespace Go.Proofs.YtpfidgnkokidoaaGreatDoor
open Go Go.Ev
set_option maxRecDepth 100000
def LA:Cfg:=⟨bu,[eDg]⟩
theorem KM:ai Tryz.prog LA.tab:=(ai.cons F7 ai.nil)
variable (op:Int) (b:Str) (l:List Cell) (p:Int) (Γ:Ctx)
theorem Iq (a:Int) (nm:Str) (h0 : -9223372036854775808≤a) (h1:a≤9223372036854775807) (hn:nm.length≤1000000):ak Tryz.prog 106 [.agg [.pd (.int .i64 op),.pd (.int .i64 a),.pd (.str nm)]] [] (.x (.s (fj ⟨op,a,nm⟩))) []:=by
 refine dg KM Tryz.func106 (.ite (op==(1:Int)) (.need ((-9223372036854775808:Int)≤a∧a≤(9223372036854775807:Int)) (.ret (.p (.str (Lib.itoa a))) [])) (.ite (op==(2:Int)) (.need ((-9223372036854775808:Int)≤a∧a≤(9223372036854775807:Int)) (.need ((Lib.itoa a).length+1≤9223372036854775807) (.ret (.p (.str (Lib.itoa a++[(105:UInt8)]))) []))) (.ite (op==(3:Int)) (.ret (.p (.str [116,114,117,101])) []) (.ite (op==(4:Int)) (.ret (.p (.str [102,97,108,115,101])) []) (.ite (op==(6:Int)) (.need (3+nm.length≤9223372036854775807) (.need (([(105:UInt8),110,40]++nm).length+1≤9223372036854775807) (.ret (.p (.str ([(105:UInt8),110,40]++nm++[(41:UInt8)]))) []))) (.ret (.p (.str nm)) [])))))) fun Γ=>?_
 have hl:=jY a h0 h1
 unfold fj
 refine ⟨fun h=>⟨⟨h0,h1⟩,?_⟩,fun e1=>⟨fun h=>⟨⟨h0,h1⟩,by omega,?_⟩,fun e2=>⟨fun h=>?_,fun e3=>⟨fun h=>?_,fun e4=>⟨fun h=>⟨by omega,?_,?_⟩,fun e6=>?_⟩⟩⟩⟩⟩
 all_goals first | (simp only [ag,ah,aj]; omega) | (simp only [*,cond_true,cond_false]; exact ⟨rfl,rfl⟩)
def ym:Ent:=(106,fun
 | [.agg [.pd (.int .i64 op),.pd (.int .i64 a),.pd (.str nm)]],[]=>some (some (-9223372036854775808≤a∧a≤9223372036854775807∧nm.length≤1000000),.x (.c (.pd (.str (fj ⟨op,a,nm⟩)))),[])
 | _,_=>none)
theorem KG:EntOk Tryz.prog ym:=entOk fun vs ck=>by
 unfold ym; dsimp only; split
 · rename_i op a nm; exact entS fun hp=>Iq op a nm hp.1 hp.2.1 hp.2.2
 · exact entN
theorem JX (least:Int) (hb:b.length≤1000000):ak Tryz.prog 107 [.agg [.pd (.str b),.pd (.int .i64 p)],.i least] [] (.x (.s (cj p b least))) []:=by
 refine dg bH Tryz.func107 (.ite (decide (p<least)) (.need (1+b.length≤9223372036854775807) (.need (([(40:UInt8)]++b).length+1≤9223372036854775807) (.ret (.p (.str ([(40:UInt8)]++b++[(41:UInt8)]))) []))) (.ret (.p (.str b)) [])) fun Γ=>?_
 unfold cj
 refine ⟨fun h=>⟨by omega,?_,?_⟩,fun h=>?_⟩
 all_goals first | (simp only [ag,ah,aj]; omega) | (simp only [h,cond_true,cond_false]; exact ⟨rfl,rfl⟩)
def EN:Ent:=(107,fun
 | [.agg [.pd (.str b),.pd (.int .i64 p)],.c (.pd (.int .i64 least))],[]=>some (some (b.length≤1000000),.x (.c (.pd (.str (cj p b least)))),[])
 | _,_=>none)
theorem Nt:EntOk Tryz.prog EN:=entOk fun vs ck=>by
 unfold EN; dsimp only; split
 · rename_i b p least; exact entS fun hp=>JX b p least hp
 · exact entN
def vl:Cfg:=⟨bu,[oy,uv,om,ym,EN]⟩
theorem rB:ai Tryz.prog vl.tab:=(ai.cons qq (ai.cons AC (ai.cons qu (ai.cons KG (ai.cons Nt ai.nil)))))
/-! ### plain -/
def fG (c:Cell) (st:List Piece):List Piece :=
 if bx c=0 then ⟨fj c,7⟩::st
 else if bx c=1 then (match st with
  | p::r=>⟨unS c.op p.s p.power,(ax c.op).2⟩::r
  | []=>[])
 else (match st with
  | q::p::r=>⟨j4 c.op p.s p.power q.s q.power,(ax c.op).2⟩::r
  | _=>[])
def je:List Cell→List Piece→Str
 | [],p::_=>p.s
 | [],[]=>[]
 | c::r,st=>je r (fG c st)
def fA:Str:=je l []
def qN:List Piece→Nat
 | []=>0
 | p::r=>p.s.length+qN r
theorem nu (rest:List Cell):∀ (t:Tm),t.ok→∀ st:List Piece,je (t.flat++rest) st=je rest (⟨t.body,t.pow⟩::st)
 | .leaf c,h,st=>by
   have hw:bx c=0:=h
   have hp:(Tm.leaf c).pow=7:=by
    rcases gk hw with ⟨a,rfl,_⟩ | ⟨a,rfl,_⟩ | rfl | rfl | ⟨n,rfl,_⟩ | ⟨n,rfl,_⟩ <;> rfl
   rw [hp]
   show je rest (fG c st)=_
   unfold fG; rw [if_pos hw]; rfl
 | .un c t,⟨hw,ht⟩,st=>by
   rw [Tm.flat,aX,nu _ t ht]
   show je rest (fG c _)=_
   unfold fG; rw [if_neg (by omega),if_pos hw]; rfl
 | .bin c t u,⟨hw,ht,hu⟩,st=>by
   rw [Tm.flat,aX,aX,nu _ t ht,nu _ u hu]
   show je rest (fG c _)=_
   unfold fG; rw [if_neg (by omega),if_neg (by omega)]; rfl
theorem ji {t:Tm} (h:t.ok):fA t.flat=t.body:=by
 have:=nu [] t h []
 rw [bt] at this
 exact this
/-! ### the walk -/
def ShJ (Q:Out) (l:List Cell) (k:Int) (ps:List Piece):Prop:=J Tryz.prog 61 (aH Tryz.f61) Γ Q [.code [1,1,1,0,1,0,0],.inLoop [1,1,1,0,1,0,0],.inBlock 0,.code [1,1,1,1]] ({ n:=107,fr:=[(2,.p (.str [])),(3,.i 0),(4,.x (.c (.own 0))),(15,.p (.lst .cell l)),(16,.i l.length),(17,.i k)],ck:=[.own 158 .piece ps] })
theorem Ch {c:Cell} (h:bx c=0) : -9223372036854775808≤c.a∧c.a≤9223372036854775807∧c.name.length≤1000000:=by
 rcases gk h with ⟨a,rfl,h0,h1⟩ | ⟨a,rfl,h0,h1⟩ | rfl | rfl | ⟨n,rfl,hn⟩ | ⟨n,rfl,hn⟩
 · exact ⟨by show _≤a; omega,by show a≤_; omega,br _⟩
 · exact ⟨by show _≤a; omega,by show a≤_; omega,br _⟩
 · decide
 · decide
 · have:=(fD hn).2.2.2.2.2.2.2
   simp only [af] at this
   exact ⟨by show _≤(0:Int); omega,by show (0:Int)≤_; omega,by show n.length≤_; omega⟩
 · have:=(fD hn).2.2.2.2.2.2.2
   simp only [af] at this
   exact ⟨by show _≤(0:Int); omega,by show (0:Int)≤_; omega,by show n.length≤_; omega⟩
theorem On:(unS op b p).length≤b.length+4:=by
 have hs:=kH op
 have hp:=ej p b 6
 unfold unS
 simp only [cond_eq_ite]
 repeat' split
 all_goals (simp only [ag,ah,aj]; omega)
theorem No (d:Str) (q:Int):(j4 op b p d q).length≤b.length+d.length+6:=by
 have hs:=kH op
 have hp:=ej p b (gx (ax op).2)
 have hp2:=ej q d ((ax op).2+1)
 unfold j4
 simp only [ag]; omega
theorem EW {n:Nat} (h:n≤1000):room n 24:=by unfold room maxLen; omega
theorem Ja:1≤(ax op).2∧(ax op).2≤7:=by
 have h2:∀ (b:Bool) (x y:Str×Int),(1≤x.2∧x.2≤7)→(1≤y.2∧y.2≤7)→(1≤(bif b then x else y).2∧(bif b then x else y).2≤7):=by intro b x y hx hy; cases b <;> assumption
 unfold ax
 repeat' (first | exact (by decide) | refine h2 _ _ _ ?_ ?_)
abbrev zOb1:List PI:=[.code [1,1,1,0,1,0,0],.inLoop [1,1,1,0,1,0,0],.inBlock 0,.code [1,1,1,1]]
theorem GO (hl:l.length≤32):∀ (n k:Nat) (st:List Piece),l.length - k≤n→k≤l.length→st.length≤k→qN st≤16 * k→eM (l.drop k) st.length=true →
 ShJ Γ (Eq2 (.tup [.s (je (l.drop k) st),.i 0]) []) l k st.reverse:=by
 intro n
 induction n with
 | zero=>?_
 | succ n ih=>?_
 all_goals
  intro k st hn hk hst hsum hright
  generalize hps:st.reverse=ps
  refine jg rB Tryz.func61 (let x12:=((ps.length:Int) - 1); let x6:=(IntKind.wrap .i64 x12); let x1:=(ETy.get .piece ps (x6.toNat)); let x21:=((ps.length:Int) - 2); let x9:=(IntKind.wrap .i64 x21); let x2:=(ETy.get .piece ps (x9.toNat)); let x19:=(Cell.op (ETy.get .cell l k)); let x3:=(ax x19); let x4:List (Nat×SV):=[(2,.p (.str [])),(3,.i 0),(4,.x (.c (.own 0))),(15,.p (.lst .cell l)),(16,.i l.length),(17,.i (IntKind.wrap .i64 ((k:Int)+1)))]; let x5:=((0:Int)≤IntKind.wrap .i64 x12∧IntKind.wrap .i64 x12<(ps.length:Int)); let x7:List PI:=zOb1; let x8:=((0:Int)≤IntKind.wrap .i64 x21∧IntKind.wrap .i64 x21<(ps.length:Int)); let x13:=(IntKind.wrap .i64 (x3.2+(1:Int))); let x10:=(List.set ps (x9.toNat) { s:=cj (Piece.power x2) (Piece.s x2) (4:Int)++x3.1++cj (Piece.power x1) (Piece.s x1) x13,power:=x3.2 }); let x11:=(List.set ps (x9.toNat) { s:=cj (Piece.power x2) (Piece.s x2) (x3.2)++x3.1++cj (Piece.power x1) (Piece.s x1) x13,power:=x3.2 }); let x14:=(x6.toNat<ps.length); let x15:=(ps++[{ s:=fj (ETy.get .cell l k),power:=(7:Int) }]); let x16:=(x9.toNat<ps.length); let x17:=(Cell.name (ETy.get .cell l k)); let x18:=((Piece.s x1).length≤1000000); let x20:=(3+(Piece.s x1).length≤9223372036854775807); let x22:=(cj (Piece.power x1) (Piece.s x1) x13); .ite (decide ((k:Int)<(l.length:Int))) (.need (inRg k l.length) (.ite (fC x19 (Cell.a (ETy.get .cell l k)) x17==(0:Int)) (.need ((-9223372036854775808:Int)≤Cell.a (ETy.get .cell l k)∧Cell.a (ETy.get .cell l k)≤(9223372036854775807:Int)∧x17.length≤1000000) (.need (room (List.length x15) 24) (.stop x7 { n:=107,fr:=x4,ck:=[.own 158 .piece x15] }))) (.ite (fC x19 (Cell.a (ETy.get .cell l k)) x17==(1:Int)) (.need x5 (.need x14 (.ite (Cell.op (ETy.get .cell l k)==(9:Int)) (.need x20 (.need (([(114:UInt8),101,40]++Piece.s x1).length+1≤9223372036854775807) (.need x5 (.need x14 (.stop x7 { n:=107,fr:=x4,ck:=[.own 158 .piece (List.set ps (x6.toNat) { s:=[(114:UInt8),101,40]++Piece.s x1++[(41:UInt8)],power:=x3.2 })] }))))) (.ite (Cell.op (ETy.get .cell l k)==(10:Int)) (.need x20 (.need (([(105:UInt8),109,40]++Piece.s x1).length+1≤9223372036854775807) (.need x5 (.need x14 (.stop x7 { n:=107,fr:=x4,ck:=[.own 158 .piece (List.set ps (x6.toNat) { s:=[(105:UInt8),109,40]++Piece.s x1++[(41:UInt8)],power:=x3.2 })] }))))) (.need x18 (.need ((x3.1).length+(cj (Piece.power x1) (Piece.s x1) (6:Int)).length≤9223372036854775807) (.need x5 (.need x14 (.stop x7 { n:=107,fr:=x4,ck:=[.own 158 .piece (List.set ps (x6.toNat) { s:=x3.1++cj (Piece.power x1) (Piece.s x1) (6:Int),power:=x3.2 })] }))))))))) (.ite (x3.2==(3:Int)) (.need x8 (.need x16 (.need ((Piece.s x2).length≤1000000) (.need ((cj (Piece.power x2) (Piece.s x2) (4:Int)).length+(x3.1).length≤9223372036854775807) (.need x5 (.need x14 (.need x18 (.need ((cj (Piece.power x2) (Piece.s x2) (4:Int)++x3.1).length+x22.length≤9223372036854775807) (.need x8 (.need x16 (.need ((0:Int)≤IntKind.wrap .i64 x12∧IntKind.wrap .i64 x12≤(↑(List.length x10):Int)) (.stop x7 { n:=107,fr:=x4,ck:=[.own 158 .piece (List.take (x6.toNat) x10)] })))))))))))) (.need x8 (.need x16 (.need ((Piece.s x2).length≤1000000) (.need ((cj (Piece.power x2) (Piece.s x2) (x3.2)).length+(x3.1).length≤9223372036854775807) (.need x5 (.need x14 (.need x18 (.need ((cj (Piece.power x2) (Piece.s x2) (x3.2)++x3.1).length+x22.length≤9223372036854775807) (.need x8 (.need x16 (.need ((0:Int)≤IntKind.wrap .i64 x12∧IntKind.wrap .i64 x12≤(↑(List.length x11):Int)) (.stop x7 { n:=107,fr:=x4,ck:=[.own 158 .piece (List.take (x6.toNat) x11)] })))))))))))))))) (.need (inRg 0 ps.length) (.need (0<ps.length) (.ret (.tup [.p (.str (Piece.s (ETy.get .piece ps 0))),.i 0]) [])))) ?_
  conv=>zeta
  subst hps
  have next:∀ (st':List Piece) (c:Cell),((st'.length:Int)=st.length+(1 - bx c))→0≤bx c→k<l.length→qN st'≤16 * k+16→eM (l.drop (k+1)) (st.length+(1 - bx c))=true →
   ShJ Γ (Eq2 (.tup [.s (je (l.drop (k+1)) st'),.i 0]) []) l (IntKind.wrap .i64 ((k:Int)+1)) st'.reverse:=by
   intro st' c h1 h2 h3 h4 h5
   rw [dY (by omega)]
   first
   | (exfalso; omega)
   | exact ih (k+1) st' (by omega) (by omega) (by omega) (by omega) (by rw [← h1] at h5; exact h5)
  refine ⟨fun hlt=>?_,fun hge=>?_⟩
  · have hk':k<l.length:=by have:=of_decide_eq_true hlt; omega
    rw [bY (t:=.cell) hk'] at hright ⊢
    refine ⟨by omega,?_⟩
    generalize ETy.get .cell l k=c at hright ⊢
    have hw:(decide (bx c<0)||decide (bx c>(st.length:Int)))=false:=by
     simp only [eM] at hright
     cases hb:(decide (bx c<0)||decide (bx c>(st.length:Int)))
     · rfl
     · rw [hb] at hright; simp at hright
    have hrest:eM (l.drop (k+1)) (st.length+(1 - bx c))=true:=by
     simp only [eM,hw,cond_false] at hright; exact hright
    have hw2:0≤bx c∧bx c≤st.length:=by
     simp only [aI,decide_eq_false_iff_not] at hw; omega
    have hgo:je (c::l.drop (k+1)) st=je (l.drop (k+1)) (fG c st):=rfl
    rw [hgo]
    refine ⟨fun h0=>?_,fun h0=>⟨fun h1=>?_,fun h1=>?_⟩⟩
    · have hw0:bx c=0:=eq_of_beq h0
      have es:fG c st=⟨fj c,7⟩::st:=by unfold fG; rw [if_pos hw0]
      rw [es]
      have hll:=A0 hw0
      refine ⟨Ch hw0,EW (by simp only [ag,List.length_reverse,ah,aj]; omega),?_⟩
      have:=next (⟨fj c,7⟩::st) c (by simp only [ah]; omega) (by omega) hk' (by simp only [qN]; omega) hrest
      rw [cH] at this
      exact this
    · have hw1:bx c=1:=eq_of_beq h1
      cases st with
      | nil=>simp only [aj] at hw2; omega
      | cons t r =>
        have es:fG c (t::r)=⟨unS c.op t.s t.power,(ax c.op).2⟩::r:=by unfold fG; rw [if_neg (by omega),if_pos hw1]
        rw [es]
        have hrl:((t::r).reverse).length=r.length+1:=by simp
        have w1:IntKind.wrap .i64 ((((t::r).reverse).length:Int) - 1)=(r.length:Int):=by
         simp only [ah] at hst
         rw [hrl,cI (by omega) (by omega)]; omega
        have hg:ETy.get .piece ((t::r).reverse) r.length=t:=by
         refine ETy.get_eq (t:=.piece) ?_
         rw [cH,List.getElem?_append_right (by simp)]; simp
        have hs:∀ x,((t::r).reverse).set r.length x=r.reverse++[x]:=by
         intro x
         rw [cH,fK _ _ (by simp)]; simp
        have hb:(0:Int)≤(r.length:Int)∧(r.length:Int)<(((t::r).reverse).length:Int):=by rw [hrl]; omega
        have hb2:r.length<((t::r).reverse).length:=by rw [hrl]; omega
        have hul:=On c.op t.s t.power
        have hsl:=kH c.op
        have hpl:=ej t.power t.s 6
        simp only [qN] at hsum
        have nx:=next (⟨unS c.op t.s t.power,(ax c.op).2⟩::r) c (by simp only [ah]; omega) (by omega) hk' (by simp only [qN]; omega) hrest
        rw [cH] at nx
        rw [w1,bf,hg]
        simp only [hs]
        refine ⟨hb,hb2,fun h9=>⟨by omega,by simp only [ag,ah,aj]; omega,hb,hb2,?_⟩,fun h9=>⟨fun h10=>⟨by omega,by simp only [ag,ah,aj]; omega,hb,hb2,?_⟩,fun h10=>⟨by omega,by omega,hb,hb2,?_⟩⟩⟩
        · have e:unS c.op t.s t.power=[114,101,40]++t.s++[41]:=by unfold unS; rw [h9]; rfl
          rw [e] at nx ⊢; exact nx
        · have e:unS c.op t.s t.power=[105,109,40]++t.s++[41]:=by unfold unS; rw [h9,h10]; rfl
          rw [e] at nx ⊢; exact nx
        · have e:unS c.op t.s t.power=(ax c.op).1++cj t.power t.s 6:=by unfold unS; rw [h9,h10]; rfl
          rw [e] at nx ⊢; exact nx
    · have hw0:bx c≠0:=ne_of_beq_false h0
      have hw1:bx c≠1:=ne_of_beq_false h1
      have hle:=Jo c
      have hwb:bx c=2:=by omega
      match st,hst,hsum,hright,hw,hrest,hw2,next,hgo with
      | [],_,_,_,_,_,hw2,_,_=>simp only [aj] at hw2; omega
      | [_],_,_,_,_,_,hw2,_,_=>simp only [ah,aj] at hw2; omega
      | q :: p::r,hst,hsum,hright,hw,hrest,hw2,next,hgo =>
        have es:fG c (q::p::r)=⟨j4 c.op p.s p.power q.s q.power,(ax c.op).2⟩::r:=by unfold fG; rw [if_neg hw0,if_neg hw1]
        rw [es]
        have hrl:((q::p::r).reverse).length=r.length+2:=by simp
        simp only [ah] at hst
        have w1:IntKind.wrap .i64 ((((q::p::r).reverse).length:Int) - 1)=((r.length+1:Nat):Int):=by
         rw [hrl,cI (by omega) (by omega)]; omega
        have w2:IntKind.wrap .i64 ((((q::p::r).reverse).length:Int) - 2)=(r.length:Int):=by
         rw [hrl,cI (by omega) (by omega)]; omega
        have hsa:=Ja c.op
        have w3:IntKind.wrap .i64 ((ax c.op).2+1)=(ax c.op).2+1:=cI (by omega) (by omega)
        have hg1:ETy.get .piece ((q::p::r).reverse) (r.length+1)=q:=by
         refine ETy.get_eq (t:=.piece) ?_
         rw [cH,List.getElem?_append_right (by simp)]; simp
        have hg2:ETy.get .piece ((q::p::r).reverse) r.length=p:=by
         refine ETy.get_eq (t:=.piece) ?_
         rw [cH,List.getElem?_append_left (by simp),cH,List.getElem?_append_right (by simp)]; simp
        have hs:∀ x,(((q::p::r).reverse).set r.length x).take (r.length+1)=r.reverse++[x]:=by
         intro x
         rw [cH,cH,aX,fK _ _ (by simp)]
         simp only [List.length_reverse,gu,bC,bN,List.set_cons_zero]
         rw [List.take_append,eB (by simp)]
         simp
        have hb1:(0:Int)≤((r.length+1:Nat):Int)∧((r.length+1:Nat):Int)<(((q::p::r).reverse).length:Int):=by rw [hrl]; omega
        have hb2:r.length+1<((q::p::r).reverse).length:=by rw [hrl]; omega
        have hc1:(0:Int)≤(r.length:Int)∧(r.length:Int)<(((q::p::r).reverse).length:Int):=by rw [hrl]; omega
        have hc2:r.length<((q::p::r).reverse).length:=by rw [hrl]; omega
        have hbl:=No c.op p.s p.power q.s q.power
        have hsl:=kH c.op
        simp only [qN] at hsum
        have nx:=next (⟨j4 c.op p.s p.power q.s q.power,(ax c.op).2⟩::r) c (by simp only [ah]; omega) (by omega) hk' (by simp only [qN]; omega) hrest
        rw [cH] at nx
        rw [w1,w2,w3,bf,bf,hg1,hg2]
        simp only [hs,cV]
        refine ⟨fun h3=>⟨hc1,hc2,by omega,?_,hb1,hb2,by omega,?_,hc1,hc2,⟨hb1.1,Int.le_of_lt hb1.2⟩,?_⟩,fun h3=>⟨hc1,hc2,by omega,?_,hb1,hb2,by omega,?_,hc1,hc2,⟨hb1.1,Int.le_of_lt hb1.2⟩,?_⟩⟩
        · have:=ej p.power p.s 4; omega
        · have:=ej p.power p.s 4; have:=ej q.power q.s ((ax c.op).2+1); rw [ag]; omega
        · have e:j4 c.op p.s p.power q.s q.power=cj p.power p.s 4++(ax c.op).1++cj q.power q.s ((ax c.op).2+1):=by unfold j4 gx; rw [h3]; rfl
          rw [e] at nx ⊢; exact nx
        · have:=ej p.power p.s (ax c.op).2; omega
        · have:=ej p.power p.s (ax c.op).2; have:=ej q.power q.s ((ax c.op).2+1); rw [ag]; omega
        · have e:j4 c.op p.s p.power q.s q.power=cj p.power p.s (ax c.op).2++(ax c.op).1++cj q.power q.s ((ax c.op).2+1):=by unfold j4 gx; rw [h3]; rfl
          rw [e] at nx ⊢; exact nx
  · have hk2:k=l.length:=by have:=of_decide_eq_false hge; omega
    rw [hk2,List.drop_length] at hright ⊢
    have h1:st.length=1:=by have:((st.length:Int)==1)=true:=hright; have:=eq_of_beq this; omega
    obtain ⟨t,rfl⟩:=List.length_eq_one_iff.1 h1
    exact ⟨⟨by omega,by simp⟩,by simp,rfl,rfl⟩
abbrev zOb2 (a:List Cell):ST:={ n:=107,fr:=[(2,.p (.str [])),(3,.i 0),(4,.p (.v (Value.slice none 0 0))),(15,.p (.lst .cell a)),(16,.i a.length),(17,.i 0)],ck:=[] }
theorem Dk (h:cS l=true):ak Tryz.prog 61 [.l .cell l] [] (.tup [.s (fA l),.i 0]) []:=by
 refine dg rB Tryz.func61 (.ite (!cS l) (.ret (.tup [.p (.str []),.i 1]) []) (.stop zOb1 (zOb2 l))) fun Γ=>?_
 refine ⟨fun h'=>(by rw [h] at h'; cases h'),fun _=>?_⟩
 refine J.nilOwn 4 158 .piece rfl rfl ?_
 simp only [cS,ab,aC,decide_eq_false_iff_not] at h
 exact GO l Γ (by omega) l.length 0 [] (by omega) (by omega) (aw _) (aw _) h.2
theorem JP (h:cS l=false):ak Tryz.prog 61 [.l .cell l] [] (.tup [.s [],.i 1]) []:=by
 refine dg rB Tryz.func61 (.ite (!cS l) (.ret (.tup [.p (.str []),.i 1]) []) (.stop zOb1 (zOb2 l))) fun Γ=>?_
 refine ⟨fun _=>⟨rfl,rfl⟩,fun h'=>(by rw [h] at h'; cases h')⟩
end Go.Proofs.YtpfidgnkokidoaaGreatDoor
