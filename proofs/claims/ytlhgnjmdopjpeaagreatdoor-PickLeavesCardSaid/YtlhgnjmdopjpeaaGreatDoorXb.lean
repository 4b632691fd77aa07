/- Contracts: the document's kinds. Conditions: none. Contracts: texts' beginnings, events' names; behind the kinds' texts. Conditions: none. Contracts: names, events' names. Conditions: none. Contracts: the kinds of lines, a map. Conditions: none. -/
import Derived.Test.YtlhgnjmdopjpeaaGreatDoorFe
import Derived.Test.YtlhgnjmdopjpeaaGreatDoorKb
import Derived.Lib.AppendIntMem
import Derived.Test.YtlhgnjmdopjpeaaGreatDoorVe
namespace Go.Proofs.YtlhgnjmdopjpeaaGreatDoor
open Go Go.Ev
set_option maxRecDepth 100000
def eK(K:Int→Int×Int):Ent:=(138,fun
 |[.c (.pd (.lst .cell l)),.c (.pd (.int .i64 e)),.c (.pd (.lst .var vs)),.c (.pd (.lst .str ss))],[]=>some (some (ag Tryz.prog 138 [SX.l .cell l,SX.i e,SX.l .var vs,SX.l .str ss] [] (cH (K e)) []),cH (K e),[])
 |_,_=>none)
def eB(B:Int→Int):Ent:=(186,fun
 |[.c (.pd (.lst .cell l)),.c (.pd (.int .i64 e))],[]=>some (some (ag Tryz.prog 186 [SX.l .cell l,SX.i e] [] (.x (.i (B e))) []),.x (.i (B e)),[])
 |_,_=>none)
def Er(K:Int→Int×Int)(B:Int→Int):Cfg:=⟨aX,[Bi,uB,eJn,eK K,eB B]⟩
def NJ(K:Int→Int×Int):Cfg:=⟨aX,[oC,eK K]⟩
theorem NZ{K:Int→Int×Int}(vs:List SX)(ck:List Chunk)(p:Option Prop)(ret:SV)(ck':List Chunk)(h:(eK K).2 vs ck=some (p,ret,ck'))(hp:Holds p):ag Tryz.prog (eK K).1 vs ck ret ck':=by
 unfold eK at h
 simp only at h
 split at h
 · simp only[aa,ae]at h
   obtain⟨rfl,rfl,rfl⟩:=h
   exact hp
 ·simp at h
theorem RO{B:Int→Int}(vs:List SX)(ck:List Chunk)(p:Option Prop)(ret:SV)(ck':List Chunk)(h:(eB B).2 vs ck=some (p,ret,ck'))(hp:Holds p):ag Tryz.prog (eB B).1 vs ck ret ck':=by
 unfold eB at h
 simp only at h
 split at h
 · simp only[aa,ae]at h
   obtain⟨rfl,rfl,rfl⟩:=h
   exact hp
 ·simp at h
theorem vO{K:Int→Int×Int}{B:Int→Int}:ah Tryz.prog (Er K B).tab:=ah.cons DD (ah.cons It (ah.cons Q4 (ah.cons NZ (ah.cons RO ah.nil))))
theorem KD{K:Int→Int×Int}:ah Tryz.prog (NJ K).tab:=ah.cons uD (ah.cons NZ ah.nil)
theorem qJ{l pre post:List Cell}{c:Cell}{front:List Cell}(hq:l=pre++(front++[c])++post):pre.length+front.length<l.length∧ETy.get .cell l (pre.length+front.length)=c:=by
 have he:pre.length+front.length<l.length:=by rw[hq];simp
 refine⟨he,ETy.get_eq (t:=.cell) ?_⟩
 have hx:pre.length+front.length=(pre++front).length:=by simp
 rw[hx,hq,←bV,bV,List.getElem?_append_right (ar _),eU];rfl
theorem J9(c:Cell)(h:0≤aT c):c.op≤23:=by
 unfold aT cT at h
 simp only[cond_eq_ite]at h
 repeat' split at h
 all_goals simp_all
 all_goals omega
theorem nK(l:List Cell)(vs:List Var)(ss:List Str)(hl:l.length≤32):∀(t:Tm),t.ok→∀(pre post:List Cell),l=pre++t.flat++post →
 ag Tryz.prog 138 [.l .cell l,.i ((pre.length:Int)+t.flat.length - 1),.l .var vs,.l .str ss] [] (cH (t.kind vs ss)) []
 | .leaf c,h,pre,post,hq=>by
   obtain⟨he,hc⟩:=qJ (front:=[]) (pre:=pre) (post:=post) (c:=c) (l:=l) (by rw[hq];simp[Tm.flat])
   have e1:(pre.length:Int)+((Tm.leaf c).flat.length:Int) - 1=((pre.length+([]:List Cell).length:Nat):Int):=by simp[Tm.flat]
   rw[e1]
   generalize pre.length+([]:List Cell).length=e at *
   let K:Int→Int×Int:=fun _=>(0,0)
   let B:Int→Int:=fun _=>0
   refine dg (cfg:=(Er K B)) vO Tryz.func138 (.need (inRg e l.length) (.ite (cT (Cell.op (ETy.get .cell l e)) (Cell.a (ETy.get .cell l e)) (Cell.name (ETy.get .cell l e))==(0:Int)) (.ret (.tup [.i ((b8 (ETy.get .cell l e) vs ss).1),.i ((b8 (ETy.get .cell l e) vs ss).2)]) []) (.ite (cT (Cell.op (ETy.get .cell l e)) (Cell.a (ETy.get .cell l e)) (Cell.name (ETy.get .cell l e))==(1:Int)) (.need (ag Tryz.prog (138:FuncId) [SX.l .cell l,SX.i (IntKind.wrap .i64 ((e:Int) - 1)),SX.l .var vs,SX.l .str ss] [] (cH (K (IntKind.wrap .i64 ((e:Int) - 1)))) []) (.ite ((K (IntKind.wrap .i64 ((e:Int) - 1))).2 != (0:Int)) (.ret (.tup [.i 0,.i ((K (IntKind.wrap .i64 ((e:Int) - 1))).2)]) []) (.ite (Cell.op (ETy.get .cell l e)==(7:Int)&&(K (IntKind.wrap .i64 ((e:Int) - 1))).1 != (2:Int)) (.ret (.tup [.i ((K (IntKind.wrap .i64 ((e:Int) - 1))).1),.i 0]) []) (.ite (Cell.op (ETy.get .cell l e)==(8:Int)&&(K (IntKind.wrap .i64 ((e:Int) - 1))).1==(2:Int)) (.ret (.tup [.i ((K (IntKind.wrap .i64 ((e:Int) - 1))).1),.i 0]) []) (.ite (decide (Cell.op (ETy.get .cell l e)>(8:Int))&&(K (IntKind.wrap .i64 ((e:Int) - 1))).1==(3:Int)) (.ret (.tup [.i 1,.i 0]) []) (.ret (.tup [.i 0,.i 8]) [])))))) (.need (ag Tryz.prog (186:FuncId) [SX.l .cell l,SX.i (IntKind.wrap .i64 ((e:Int) - 1))] [] (.x (SX.i (B (IntKind.wrap .i64 ((e:Int) - 1))))) []) (.need (ag Tryz.prog (138:FuncId) [SX.l .cell l,SX.i (IntKind.wrap .i64 (B (IntKind.wrap .i64 ((e:Int) - 1)) - (1:Int))),SX.l .var vs,SX.l .str ss] [] (cH (K (IntKind.wrap .i64 (B (IntKind.wrap .i64 ((e:Int) - 1)) - (1:Int))))) []) (.ite ((K (IntKind.wrap .i64 (B (IntKind.wrap .i64 ((e:Int) - 1)) - (1:Int)))).2 != (0:Int)) (.ret (.tup [.i 0,.i ((K (IntKind.wrap .i64 (B (IntKind.wrap .i64 ((e:Int) - 1)) - (1:Int)))).2)]) []) (.need (ag Tryz.prog (138:FuncId) [SX.l .cell l,SX.i (IntKind.wrap .i64 ((e:Int) - 1)),SX.l .var vs,SX.l .str ss] [] (cH (K (IntKind.wrap .i64 ((e:Int) - 1)))) []) (.ite ((K (IntKind.wrap .i64 ((e:Int) - 1))).2 != (0:Int)) (.ret (.tup [.i 0,.i ((K (IntKind.wrap .i64 ((e:Int) - 1))).2)]) []) (.ite ((K (IntKind.wrap .i64 (B (IntKind.wrap .i64 ((e:Int) - 1)) - (1:Int)))).1 != (K (IntKind.wrap .i64 ((e:Int) - 1))).1) (.ret (.tup [.i 0,.i 8]) []) (.ret (.tup [.i ((iJ (Cell.op (ETy.get .cell l e)) ((K (IntKind.wrap .i64 (B (IntKind.wrap .i64 ((e:Int) - 1)) - (1:Int)))).1)).1),.i ((iJ (Cell.op (ETy.get .cell l e)) ((K (IntKind.wrap .i64 (B (IntKind.wrap .i64 ((e:Int) - 1)) - (1:Int)))).1)).2)]) [])))))))))) fun Γ=>?_
   rw[hc]
   have hw:cT c.op c.a c.name=0:=h
   rw[hw]
   exact⟨⟨by omega,by omega⟩,fun _=>⟨rfl,rfl⟩,fun h=>Bool.noConfusion h⟩
 | .un c t,⟨hw,ht⟩,pre,post,hq=>by
   obtain⟨he,hc⟩:=qJ (front:=t.flat) (pre:=pre) (post:=post) (c:=c) (l:=l) hq
   have e1:(pre.length:Int)+((Tm.un c t).flat.length:Int) - 1=((pre.length+t.flat.length:Nat):Int):=by simp only[Tm.flat,au,av,bz];omega
   rw[e1]
   have hop:=iM c (by omega)
   have hw':cT c.op c.a c.name=1:=hw
   have e2:IntKind.wrap .i64 (((pre.length+t.flat.length:Nat):Int) - 1)=(pre.length:Int)+t.flat.length - 1:=by
    have:=t.flat_pos
    rw[cj (by omega) (by omega)];omega
   have ih:=nK l vs ss hl t ht pre ([c]++post) (by rw[hq];simp[Tm.flat])
   rw[←e2]at ih
   generalize pre.length+t.flat.length=e at *
   let K:Int→Int×Int:=fun _=>t.kind vs ss
   let B:Int→Int:=fun _=>0
   refine dg (cfg:=(Er K B)) vO Tryz.func138 (.need (inRg e l.length) (.ite (cT (Cell.op (ETy.get .cell l e)) (Cell.a (ETy.get .cell l e)) (Cell.name (ETy.get .cell l e))==(0:Int)) (.ret (.tup [.i ((b8 (ETy.get .cell l e) vs ss).1),.i ((b8 (ETy.get .cell l e) vs ss).2)]) []) (.ite (cT (Cell.op (ETy.get .cell l e)) (Cell.a (ETy.get .cell l e)) (Cell.name (ETy.get .cell l e))==(1:Int)) (.need (ag Tryz.prog (138:FuncId) [SX.l .cell l,SX.i (IntKind.wrap .i64 ((e:Int) - 1)),SX.l .var vs,SX.l .str ss] [] (cH (K (IntKind.wrap .i64 ((e:Int) - 1)))) []) (.ite ((K (IntKind.wrap .i64 ((e:Int) - 1))).2 != (0:Int)) (.ret (.tup [.i 0,.i ((K (IntKind.wrap .i64 ((e:Int) - 1))).2)]) []) (.ite (Cell.op (ETy.get .cell l e)==(7:Int)&&(K (IntKind.wrap .i64 ((e:Int) - 1))).1 != (2:Int)) (.ret (.tup [.i ((K (IntKind.wrap .i64 ((e:Int) - 1))).1),.i 0]) []) (.ite (Cell.op (ETy.get .cell l e)==(8:Int)&&(K (IntKind.wrap .i64 ((e:Int) - 1))).1==(2:Int)) (.ret (.tup [.i ((K (IntKind.wrap .i64 ((e:Int) - 1))).1),.i 0]) []) (.ite (decide (Cell.op (ETy.get .cell l e)>(8:Int))&&(K (IntKind.wrap .i64 ((e:Int) - 1))).1==(3:Int)) (.ret (.tup [.i 1,.i 0]) []) (.ret (.tup [.i 0,.i 8]) [])))))) (.need (ag Tryz.prog (186:FuncId) [SX.l .cell l,SX.i (IntKind.wrap .i64 ((e:Int) - 1))] [] (.x (SX.i (B (IntKind.wrap .i64 ((e:Int) - 1))))) []) (.need (ag Tryz.prog (138:FuncId) [SX.l .cell l,SX.i (IntKind.wrap .i64 (B (IntKind.wrap .i64 ((e:Int) - 1)) - (1:Int))),SX.l .var vs,SX.l .str ss] [] (cH (K (IntKind.wrap .i64 (B (IntKind.wrap .i64 ((e:Int) - 1)) - (1:Int))))) []) (.ite ((K (IntKind.wrap .i64 (B (IntKind.wrap .i64 ((e:Int) - 1)) - (1:Int)))).2 != (0:Int)) (.ret (.tup [.i 0,.i ((K (IntKind.wrap .i64 (B (IntKind.wrap .i64 ((e:Int) - 1)) - (1:Int)))).2)]) []) (.need (ag Tryz.prog (138:FuncId) [SX.l .cell l,SX.i (IntKind.wrap .i64 ((e:Int) - 1)),SX.l .var vs,SX.l .str ss] [] (cH (K (IntKind.wrap .i64 ((e:Int) - 1)))) []) (.ite ((K (IntKind.wrap .i64 ((e:Int) - 1))).2 != (0:Int)) (.ret (.tup [.i 0,.i ((K (IntKind.wrap .i64 ((e:Int) - 1))).2)]) []) (.ite ((K (IntKind.wrap .i64 (B (IntKind.wrap .i64 ((e:Int) - 1)) - (1:Int)))).1 != (K (IntKind.wrap .i64 ((e:Int) - 1))).1) (.ret (.tup [.i 0,.i 8]) []) (.ret (.tup [.i ((iJ (Cell.op (ETy.get .cell l e)) ((K (IntKind.wrap .i64 (B (IntKind.wrap .i64 ((e:Int) - 1)) - (1:Int)))).1)).1),.i ((iJ (Cell.op (ETy.get .cell l e)) ((K (IntKind.wrap .i64 (B (IntKind.wrap .i64 ((e:Int) - 1)) - (1:Int)))).1)).2)]) [])))))))))) fun Γ=>?_
   rw[hc,hw']
   refine⟨⟨by omega,by omega⟩,fun h=>Bool.noConfusion h,fun _=>⟨fun _=>⟨ih,?_⟩,fun h=>Bool.noConfusion h⟩⟩
   simp only[Tm.kind,K]
   have hone:=t.kind_one vs ss
   generalize t.kind vs ss=kf at *
   obtain⟨k1,k2⟩:=kf
   refine⟨fun h=>⟨?_,rfl⟩,fun h=>?_⟩
   · have h':(k2 != 0)=true:=h
     simp only[h',cond_true,cH]
   · have h':(k2 != 0)=false:=h
     have h0:k2=0:=by simpa using h'
     have hk:=hone.1 h0
     have hu:=RI c.op k1 (by omega) (by omega) hk.1 hk.2
     simp only[h',cond_false,←hu]
     refine⟨fun q1=>⟨?_,rfl⟩,fun q1=>⟨fun q2=>⟨?_,rfl⟩,fun q2=>⟨fun q3=>⟨?_,rfl⟩,fun q3=>⟨?_,rfl⟩⟩⟩⟩ <;> simp only[N9, *,cond_true,cond_false,cH]
 | .bin c t u,⟨hw,ht,hu⟩,pre,post,hq=>by
   obtain⟨he,hc⟩:=qJ (front:=t.flat++u.flat) (pre:=pre) (post:=post) (c:=c) (l:=l) hq
   have e1:(pre.length:Int)+((Tm.bin c t u).flat.length:Int) - 1=((pre.length+(t.flat++u.flat).length:Nat):Int):=by simp only[Tm.flat,au,av,bz];omega
   rw[e1]
   have hop:=iM c (by omega)
   have hw':cT c.op c.a c.name=2:=hw
   have htp:=t.flat_pos
   have hup:=u.flat_pos
   have hq1:l=pre++t.flat++(u.flat++[c]++post):=by rw[hq];simp[Tm.flat]
   have hq2:l=(pre++t.flat)++u.flat++([c]++post):=by rw[hq];simp[Tm.flat]
   have e2:IntKind.wrap .i64 (((pre.length+(t.flat++u.flat).length:Nat):Int) - 1)=((pre++t.flat).length:Int)+u.flat.length - 1:=by
    simp only[au]at he ⊢
    rw[cj (by omega) (by omega)];omega
   have e3:IntKind.wrap .i64 (((pre++t.flat).length:Int) - 1)=(pre.length:Int)+t.flat.length - 1:=by
    simp only[au]at he ⊢
    rw[cj (by omega) (by omega)];omega
   have ih1:=nK l vs ss hl t ht pre (u.flat++[c]++post) hq1
   have ih2:=nK l vs ss hl u hu (pre++t.flat) ([c]++post) hq2
   have hbeg:=Ec l u hu (pre++t.flat) ([c]++post) hq2 hl
   have hne:IntKind.wrap .i64 (((pre++t.flat).length:Int) - 1)≠IntKind.wrap .i64 (((pre.length+(t.flat++u.flat).length:Nat):Int) - 1):=by
    rw[e2,e3];simp only[au];omega
   rw[←e3]at ih1
   rw[←e2]at ih2 hbeg
   generalize pre.length+(t.flat++u.flat).length=e at *
   generalize (pre++t.flat).length=x at *
   let K:Int→Int×Int:=fun i=>if i=IntKind.wrap .i64 ((x:Int) - 1)then t.kind vs ss else u.kind vs ss
   let B:Int→Int:=fun _=>(x:Int)
   have k1:K (IntKind.wrap .i64 ((x:Int) - 1))=t.kind vs ss:=if_pos rfl
   have k2:K (IntKind.wrap .i64 ((e:Int) - 1))=u.kind vs ss:=if_neg (Ne.symm hne)
   refine dg (cfg:=(Er K B)) vO Tryz.func138 (.need (inRg e l.length) (.ite (cT (Cell.op (ETy.get .cell l e)) (Cell.a (ETy.get .cell l e)) (Cell.name (ETy.get .cell l e))==(0:Int)) (.ret (.tup [.i ((b8 (ETy.get .cell l e) vs ss).1),.i ((b8 (ETy.get .cell l e) vs ss).2)]) []) (.ite (cT (Cell.op (ETy.get .cell l e)) (Cell.a (ETy.get .cell l e)) (Cell.name (ETy.get .cell l e))==(1:Int)) (.need (ag Tryz.prog (138:FuncId) [SX.l .cell l,SX.i (IntKind.wrap .i64 ((e:Int) - 1)),SX.l .var vs,SX.l .str ss] [] (cH (K (IntKind.wrap .i64 ((e:Int) - 1)))) []) (.ite ((K (IntKind.wrap .i64 ((e:Int) - 1))).2 != (0:Int)) (.ret (.tup [.i 0,.i ((K (IntKind.wrap .i64 ((e:Int) - 1))).2)]) []) (.ite (Cell.op (ETy.get .cell l e)==(7:Int)&&(K (IntKind.wrap .i64 ((e:Int) - 1))).1 != (2:Int)) (.ret (.tup [.i ((K (IntKind.wrap .i64 ((e:Int) - 1))).1),.i 0]) []) (.ite (Cell.op (ETy.get .cell l e)==(8:Int)&&(K (IntKind.wrap .i64 ((e:Int) - 1))).1==(2:Int)) (.ret (.tup [.i ((K (IntKind.wrap .i64 ((e:Int) - 1))).1),.i 0]) []) (.ite (decide (Cell.op (ETy.get .cell l e)>(8:Int))&&(K (IntKind.wrap .i64 ((e:Int) - 1))).1==(3:Int)) (.ret (.tup [.i 1,.i 0]) []) (.ret (.tup [.i 0,.i 8]) [])))))) (.need (ag Tryz.prog (186:FuncId) [SX.l .cell l,SX.i (IntKind.wrap .i64 ((e:Int) - 1))] [] (.x (SX.i (B (IntKind.wrap .i64 ((e:Int) - 1))))) []) (.need (ag Tryz.prog (138:FuncId) [SX.l .cell l,SX.i (IntKind.wrap .i64 (B (IntKind.wrap .i64 ((e:Int) - 1)) - (1:Int))),SX.l .var vs,SX.l .str ss] [] (cH (K (IntKind.wrap .i64 (B (IntKind.wrap .i64 ((e:Int) - 1)) - (1:Int))))) []) (.ite ((K (IntKind.wrap .i64 (B (IntKind.wrap .i64 ((e:Int) - 1)) - (1:Int)))).2 != (0:Int)) (.ret (.tup [.i 0,.i ((K (IntKind.wrap .i64 (B (IntKind.wrap .i64 ((e:Int) - 1)) - (1:Int)))).2)]) []) (.need (ag Tryz.prog (138:FuncId) [SX.l .cell l,SX.i (IntKind.wrap .i64 ((e:Int) - 1)),SX.l .var vs,SX.l .str ss] [] (cH (K (IntKind.wrap .i64 ((e:Int) - 1)))) []) (.ite ((K (IntKind.wrap .i64 ((e:Int) - 1))).2 != (0:Int)) (.ret (.tup [.i 0,.i ((K (IntKind.wrap .i64 ((e:Int) - 1))).2)]) []) (.ite ((K (IntKind.wrap .i64 (B (IntKind.wrap .i64 ((e:Int) - 1)) - (1:Int)))).1 != (K (IntKind.wrap .i64 ((e:Int) - 1))).1) (.ret (.tup [.i 0,.i 8]) []) (.ret (.tup [.i ((iJ (Cell.op (ETy.get .cell l e)) ((K (IntKind.wrap .i64 (B (IntKind.wrap .i64 ((e:Int) - 1)) - (1:Int)))).1)).1),.i ((iJ (Cell.op (ETy.get .cell l e)) ((K (IntKind.wrap .i64 (B (IntKind.wrap .i64 ((e:Int) - 1)) - (1:Int)))).1)).2)]) [])))))))))) fun Γ=>?_
   have hB:B (IntKind.wrap .i64 ((e:Int) - 1))=(x:Int):=rfl
   rw[hc,hw',hB,k1,k2]
   refine⟨⟨by omega,by omega⟩,fun h=>Bool.noConfusion h,fun _=>⟨fun h=>Bool.noConfusion h,fun _=>⟨hbeg,ih1,?_⟩⟩⟩
   simp only[Tm.kind]
   have hone:=t.kind_one vs ss
   have hone2:=u.kind_one vs ss
   clear_value K B
   generalize t.kind vs ss=kf at *
   generalize u.kind vs ss=kg at *
   obtain⟨a1,a2⟩:=kf
   obtain⟨b1,b2⟩:=kg
   refine⟨fun h=>⟨?_,rfl⟩,fun h=>⟨ih2,fun h3=>⟨?_,rfl⟩,fun h3=>?_⟩⟩
   · have h':(a2 != 0)=true:=h
     simp only[h',cond_true,cH]
   · have h':(a2 != 0)=false:=h
     have h3':(b2 != 0)=true:=h3
     simp only[h',h3',cond_true,cond_false,cH]
   · have h':(a2 != 0)=false:=h
     have h3':(b2 != 0)=false:=h3
     have h0:a2=0:=by simpa using h'
     have h0':b2=0:=by simpa using h3'
     have hk:=hone.1 h0
     have hk2:=hone2.1 h0'
     have hop':c.op≤23:=J9 c (by omega)
     have hb:=Of c.op a1 b1 (by omega) hop' hk.1 hk.2 hk2.1 hk2.2
     simp only[h',h3',cond_false,←hb]
     refine⟨fun q1=>⟨?_,rfl⟩,fun q1=>⟨?_,rfl⟩⟩ <;> simp only[G0,q1,cond_true,cond_false,cH]
theorem wB(l:List Cell)(vs:List Var)(ss:List Str):ag Tryz.prog 96 [.l .cell l,.l .var vs,.l .str ss] [] (cH (cl l vs ss)) []:=by
 let K:Int→Int×Int:=fun _=>cl l vs ss
 refine dg (cfg:=(NJ K)) KD Tryz.func96 (.ite (!dD l) (.ret (.tup [.i 0,.i 1]) []) (.need (ag Tryz.prog (138:FuncId) [SX.l .cell l,SX.i (IntKind.wrap .i64 ((l.length:Int) - 1)),SX.l .var vs,SX.l .str ss] [] (cH (K (IntKind.wrap .i64 ((l.length:Int) - 1)))) []) (.ret (.tup [.i ((K (IntKind.wrap .i64 ((l.length:Int) - 1))).1),.i ((K (IntKind.wrap .i64 ((l.length:Int) - 1))).2)]) []))) fun Γ=>?_
 refine⟨fun h=>⟨by simp only[cl,h,cond_true,cH],rfl⟩,fun h=>?_⟩
 have h':dD l=true:=by simpa using h
 obtain⟨h32,t,ht,hq⟩:=MK h'
 have hk:cl l vs ss=t.kind vs ss:=by rw[←hq];exact FT vs ss ht (by rw[hq];exact h32)
 have htp:=t.flat_pos
 have ih:=nK l vs ss h32 t ht [] [] (by rw[cd,aO,hq])
 have e:((([]:List Cell).length:Nat):Int)+t.flat.length - 1=IntKind.wrap .i64 ((l.length:Int) - 1):=by
  rw[hq]at htp ⊢
  rw[cj (by omega) (by omega)];simp
 rw[e,←hk]at ih
 exact⟨ih,rfl,rfl⟩
def Bh:Ent:=(96,fun
 |[.c (.pd (.lst .cell l)),.c (.pd (.lst .var vs)),.c (.pd (.lst .str ss))],[]=>some (none,cH (cl l vs ss),[])
 |_,_=>none)
theorem DC:EntOk Tryz.prog Bh:=entOk fun vs ck=>by
 unfold Bh;dsimp only;split
 ·rename_i l vs ss;exact entS fun hp=>wB l vs ss
 ·exact entN
variable(a b:Str)
theorem vZ:ag Tryz.prog 269 [.s a,.s b] [] (.x (.b (decide (aD a≥aD b)&&a.take (aD b).toNat==b))) []:=by
 refine dg aV Tryz.func269 (.need (decide (aD a≥aD b)=true→(0:Int)≤aD b∧aD b≤(a.length:Int)) (.ret (.p (.bool (decide (aD a≥aD b)&&(e9 a none (some (aD b))).2==b))) [])) fun Γ=>?_
 refine⟨fun h=>?_,rfl,rfl⟩
 have:=of_decide_eq_true h
 have h1:aD b=(b.length:Int):=rfl
 have h2:aD a=(a.length:Int):=rfl
 omega
def eHp:Ent:=(269,fun
 |[.c (.pd (.str a)),.c (.pd (.str b))],[]=>some (none,.x (.c (.pd (.bool (decide (aD a≥aD b)&&a.take (aD b).toNat==b)))),[])
 |_,_=>none)
theorem Q0:EntOk Tryz.prog eHp:=entOk fun vs ck=>by
 unfold eHp;dsimp only;split
 ·rename_i a b;exact entS fun hp=>vZ a b
 ·exact entN
def NH:Cfg:=⟨aX,[eHp]⟩
theorem KB:ah Tryz.prog NH.tab:=(ah.cons Q0 ah.nil)
def eN:Bool:=decide (aD a≥aD b)&&a.take (aD b).toNat==b
def eL:Str:=bif eN a b then a.drop (aD b).toNat else a
def iF(s:Str):Bool:=a8 (eL s [100,111,110,101,46])
theorem tW:ag Tryz.prog 228 [.s a,.s b] [] (.tup [.s (eL a b),.b (eN a b)]) []:=by
 refine dg KB Tryz.func228 (.ite (!(decide (aD a≥aD b)&&List.take ((aD b).toNat) a==b)) (.ret (.tup [.p (.str a),.p (.bool false)]) []) (.need ((0:Int)≤aD b∧aD b≤(a.length:Int)) (.ret (.tup [.p (.str ((e9 a (some (aD b)) none).2)),.p (.bool true)]) []))) fun Γ=>?_
 refine⟨fun h=>⟨?_,rfl⟩,fun h=>⟨?_,?_,rfl⟩⟩
 · have h':eN a b=false:=by
    have h2:(!eN a b)=true:=h
    simpa using h2
   simp[eL,h']
 · have h':eN a b=true:=by
    have h2:(!eN a b)=false:=h
    simpa using h2
   simp only[eN,af,decide_eq_true_eq]at h'
   have h1:aD b=(b.length:Int):=rfl
   have h2:aD a=(a.length:Int):=rfl
   omega
 · have h':eN a b=true:=by
    have h2:(!eN a b)=false:=h
    simpa using h2
   simp[eL,h',e9]
def yD:Ent:=(228,fun
 |[.c (.pd (.str a)),.c (.pd (.str b))],[]=>some (none,.tup [.c (.pd (.str (eL a b))),.c (.pd (.bool (eN a b)))],[])
 |_,_=>none)
theorem K7:EntOk Tryz.prog yD:=entOk fun vs ck=>by
 unfold yD;dsimp only;split
 ·rename_i a b;exact entS fun hp=>tW a b
 ·exact entN
def Dr:Cfg:=⟨aX,[yD]⟩
theorem Eh:ah Tryz.prog Dr.tab:=(ah.cons K7 ah.nil)
theorem vS:ag Tryz.prog 190 [.s a,.s b] [] (.tup [.s (eL a b),.b (eN a b)]) []:=by
 refine dg Eh Tryz.func190 (.ret (.tup [.p (.str (eL a b)),.p (.bool (eN a b))]) []) fun Γ=>?_
 exact⟨rfl,rfl⟩
def A6:Ent:=(190,fun
 |[.c (.pd (.str a)),.c (.pd (.str b))],[]=>some (none,.tup [.c (.pd (.str (eL a b))),.c (.pd (.bool (eN a b)))],[])
 |_,_=>none)
theorem Dz:EntOk Tryz.prog A6:=entOk fun vs ck=>by
 unfold A6;dsimp only;split
 ·rename_i a b;exact entS fun hp=>vS a b
 ·exact entN
def Hu:Cfg:=⟨aX,[A6,k8]⟩
theorem Hv:ah Tryz.prog Hu.tab:=(ah.cons Dz (ah.cons jV ah.nil))
variable(s:Str)
theorem Fw:ag Tryz.prog 129 [.s s] [] (.x (.b (iF s))) []:=by
 refine dg Hv Tryz.func129 (.ret (.p (.bool (a8 (eL s [(100:UInt8),111,110,101,46])))) []) fun Γ=>?_
 exact⟨rfl,rfl⟩
def qf:Ent:=(129,fun
 |[.c (.pd (.str s))],[]=>some (none,.x (.c (.pd (.bool (iF s)))),[])
 |_,_=>none)
theorem xo:EntOk Tryz.prog qf:=entOk fun vs ck=>by
 unfold qf;dsimp only;split
 ·rename_i s;exact entS fun hp=>Fw s
 ·exact entN
theorem K1:eL ([100,111,110,101,46]++s) [100,111,110,101,46]=s:=by
 have h:eN ([100,111,110,101,46]++s) [100,111,110,101,46]=true:=by
  simp[eN,aD];omega
 rw[eL,h];rfl
theorem L7:a8 ([100,111,110,101,46]++s)=false:=by
 have:([100,111,110,101,46]++s:Str).any lY=true:=by
  rw[fD]
  have:([100,111,110,101,46]:Str).any lY=true:=by decide
  rw[this];rfl
 rw[a8,this];simp
theorem FI{s p:Str}(h:eN s p=true):∃r,s=p++r:=by
 simp only[eN,af,beq_iff_eq,decide_eq_true_eq]at h
 refine⟨s.drop (aD p).toNat,?_⟩
 have:=dn (aD p).toNat s
 rw[h.2]at this;exact this.symm
theorem II:iF ([100,111,110,101,46]++s)=a8 s:=by rw[iF,K1]
theorem Lu{s:Str}(h:eN s [100,111,110,101,46]=false):iF s=a8 s:=by simp[iF,eL,h]
def Hw:Cfg:=⟨aX,[qk]⟩
theorem Hx:ah Tryz.prog Hw.tab:=(ah.cons oB ah.nil)
theorem wA:ag Tryz.prog 205 [.s s] [] (.x (.b (iF s))) []:=by
 refine dg Hx Tryz.func205 (.need (a8 s=false∧decide (aD s>(5:Int))=true→(0:Int)≤5∧(5:Int)≤(s.length:Int)) (.need (a8 s=false∧(decide (aD s>(5:Int))&&(e9 s none (some (5:Int))).2==[100,111,110,101,46])=true→(0:Int)≤5∧(5:Int)≤(s.length:Int)) (.ret (.p (.bool (a8 s||decide (aD s>(5:Int))&&(e9 s none (some (5:Int))).2==[100,111,110,101,46]&&a8 ((e9 s (some (5:Int)) none).2)))) []))) fun Γ=>?_
 have hL:aD s=(s.length:Int):=rfl
 refine⟨fun h=>by have:=of_decide_eq_true h.2;omega,fun h=>by simp only[af,decide_eq_true_eq]at h;omega,?_,rfl⟩
 cases hp:eN s [100,111,110,101,46]
 · rw [Lu hp]
   have h5:(decide (aD s>5)&&(e9 s none (some 5)).2==[100,111,110,101,46])=false:=by
    cases hb:(decide (aD s>5)&&(e9 s none (some 5)).2==[100,111,110,101,46])
    ·rfl
    · exfalso
      simp only[af,decide_eq_true_eq]at hb
      have:eN s [100,111,110,101,46]=true:=by
       simp only[eN,af,decide_eq_true_eq]
       refine⟨?_,hb.2⟩
       have h2:aD [100,111,110,101,46]=5:=rfl
       omega
      rw[this]at hp;cases hp
   rw[h5,bq,bS]
 · obtain⟨r,rfl⟩:=FI hp
   rw[II,L7,bk]
   have hc:(e9 ([100,111,110,101,46]++r) (some 5) none).2=r:=rfl
   have hc2:(e9 ([100,111,110,101,46]++r) none (some 5)).2=[100,111,110,101,46]:=rfl
   rw[hc,hc2]
   cases r with
   |nil=>rfl
   | cons c r =>
     have:decide (aD ([100,111,110,101,46]++c::r)>5)=true:=decide_eq_true (by
      have:aD ([100,111,110,101,46]++c::r)=((([100,111,110,101,46]++c::r):Str).length:Int):=rfl
      rw[this];simp only[au,av,bz];omega)
     rw[this];rfl
def nv:Ent:=(205,fun
 |[.c (.pd (.str s))],[]=>some (none,.x (.c (.pd (.bool (iF s)))),[])
 |_,_=>none)
theorem Bf:EntOk Tryz.prog nv:=entOk fun vs ck=>by
 unfold nv;dsimp only;split
 ·rename_i s;exact entS fun hp=>wA s
 ·exact entN
def oM:List (Str×Nat):=[([101,118,101,110,116],76),([105,110,116],77),([98,111,111,108],78),([112,111,105,110,116],79),([98,97,115,105,99],80),([98,111,116,104],81),([102,105,110,97,108],82),([111,110,101],83),([115,104,97,108,108,111,119],84),([100,101,101,112],85),([101,110,116,114,121],86),([101,120,105,116],87),([111,110],88)]
theorem FW:ag Tryz.prog 41 [] [] (.x (.p (.tbl oM))) []:=by
 refine dg aV Tryz.func41 (.stop [.ops [1,0] 0,.code [1,1]] {n:=3,fr:=[(0,.p (.v (Value.map none)))],ck:=[]}) fun Γ=>?_
 refine J.makeTbl (d:=1) (n:=13) (l:=oM.map fun p=>(bs p.1,p.2)) (by kernel_rfl) ?_
 have e:keyed (oM.map fun p=>(bs p.1,p.2))=oM:=by decide
 rw[e]
 refine jg aV Tryz.func41 (.ret (.p (PD.tbl [([(101:UInt8),118,101,110,116],76),([(105:UInt8),110,116],77),([(98:UInt8),111,111,108],78),([(112:UInt8),111,105,110,116],79),([(98:UInt8),97,115,105,99],80),([(98:UInt8),111,116,104],81),([(102:UInt8),105,110,97,108],82),([(111:UInt8),110,101],83),([(115:UInt8),104,97,108,108,111,119],84),([(100:UInt8),101,101,112],85),([(101:UInt8),110,116,114,121],86),([(101:UInt8),120,105,116],87),([(111:UInt8),110],88)])) []) ?_
 exact⟨rfl,rfl⟩
def uk:Ent:=(41,fun
 |[],[]=>some (none,.x (.c (.pd (.tbl oM))),[])
 |_,_=>none)
theorem Ij:EntOk Tryz.prog uk:=entOk fun vs ck=>by
 unfold uk;dsimp only;split
 ·exact entS fun hp=>FW
 ·exact entN
end Go.Proofs.YtlhgnjmdopjpeaaGreatDoor
