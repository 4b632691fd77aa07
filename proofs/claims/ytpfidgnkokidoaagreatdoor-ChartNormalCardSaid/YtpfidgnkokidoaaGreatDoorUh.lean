/- Contracts: an action read. Conditions: texts that are not too long. Contracts: blocks read. Conditions: none. -/
import Derived.Test.YtpfidgnkokidoaaGreatDoorMr
import Derived.Test.YtpfidgnkokidoaaGreatDoorMf
import Derived.Test.YtpfidgnkokidoaaGreatDoorShelfb
namespace Go.Proofs.YtpfidgnkokidoaaGreatDoor
open Go Go.Ev
set_option maxRecDepth 100000
/-! ### the program's -/
noncomputable def GK:Cfg:=⟨bu,[q9,jF,vD,rT,hG,lW]⟩
theorem H8:ai Tryz.prog GK.tab:=(ai.cons oe (ai.cons iY (ai.cons AY (ai.cons tw (ai.cons fH (ai.cons pc ai.nil))))))
noncomputable def vh:Cfg:=⟨bu,[q9,jF,vD,rU,hG,lW]⟩
theorem qT:ai Tryz.prog vh.tab:=(ai.cons oe (ai.cons iY (ai.cons AY (ai.cons tF (ai.cons fH (ai.cons pc ai.nil))))))
abbrev qm:SC:=.pd (.v (.slice none 0 0))
variable (s:Str)
theorem KX (h:bm s b6=true):ak Tryz.prog 122 [.s s] [] (.tup [.agg [.i 2,.pd (.str (bz s b6)),qm],.b (cA ⟨2,bz s b6,[]⟩)]) []:=by
 refine dg qT Tryz.func122 (let x1:=[(114:UInt8),97,105,115,101,58]; let x2:=[(115:UInt8),101,110,100,58]; let x3:=(Value.slice none 0 0); .ite (bm s x1) (.ret (.tup [.agg [.i 2,.pd (.str (bz s x1)),.pd (.v x3)],.p (.bool (cz (bz s x1)))]) []) (.ite (bm s x2) (.ret (.tup [.agg [.i 3,.pd (.str (bz s x2)),.pd (.v x3)],.p (.bool (cz (bz s x2)))]) []) (.need (s.length<4294967281) (.need (¬cy (b7 s)) (.ret (.tup [.agg [.i 1,.pd (.str (dp s)),.pd (.v x3)],.p (.bool (eF s&&aO (dp s)&&((aR (b7 s)).2).2==(0:Int)&&jq []))]) []))))) fun Γ=>?_
 conv=>zeta
 have hb:cA ⟨2,bz s b6,[]⟩=cz (bz s b6):=by show (cz _&&true)=_; rw [c8]
 rw [hb]
 exact ⟨fun _=>⟨rfl,rfl⟩,fun h'=>absurd h (by rw [show bm s b6=false from h']; simp)⟩
theorem My (h0:bm s b6=false) (h:bm s c6=true):ak Tryz.prog 122 [.s s] [] (.tup [.agg [.i 3,.pd (.str (bz s c6)),qm],.b (cA ⟨3,bz s c6,[]⟩)]) []:=by
 refine dg qT Tryz.func122 (let x1:=[(114:UInt8),97,105,115,101,58]; let x2:=[(115:UInt8),101,110,100,58]; let x3:=(Value.slice none 0 0); .ite (bm s x1) (.ret (.tup [.agg [.i 2,.pd (.str (bz s x1)),.pd (.v x3)],.p (.bool (cz (bz s x1)))]) []) (.ite (bm s x2) (.ret (.tup [.agg [.i 3,.pd (.str (bz s x2)),.pd (.v x3)],.p (.bool (cz (bz s x2)))]) []) (.need (s.length<4294967281) (.need (¬cy (b7 s)) (.ret (.tup [.agg [.i 1,.pd (.str (dp s)),.pd (.v x3)],.p (.bool (eF s&&aO (dp s)&&((aR (b7 s)).2).2==(0:Int)&&jq []))]) []))))) fun Γ=>?_
 conv=>zeta
 have hb:cA ⟨3,bz s c6,[]⟩=cz (bz s c6):=by show (cz _&&true)=_; rw [c8]
 rw [hb]
 exact ⟨fun h'=>absurd (show bm s b6=true from h') (by rw [h0]; simp),fun _=>⟨fun _=>⟨rfl,rfl⟩,fun h'=>absurd h (by rw [show bm s c6=false from h']; simp)⟩⟩
theorem NL (hs:s.length<4294967281) (h0:bm s b6=false) (h1:bm s c6=false) (h:cy (b7 s)) :
 ak Tryz.prog 122 [.s s] [] (.tup [.agg [.i 1,.pd (.str (dp s)),.own 0],.b (eF s&&cA ⟨1,dp s,(aR (b7 s)).1⟩)]) [.own 92 .cell (aR (b7 s)).1]:=by
 refine dg H8 Tryz.func122 (let x1:=[(114:UInt8),97,105,115,101,58]; let x2:=[(115:UInt8),101,110,100,58]; .ite (bm s x1) (.ret (.tup [.agg [.i 2,.pd (.str (bz s x1)),.pd (.v (Value.slice none 0 0))],.p (.bool (cz (bz s x1)))]) []) (.ite (bm s x2) (.ret (.tup [.agg [.i 3,.pd (.str (bz s x2)),.pd (.v (Value.slice none 0 0))],.p (.bool (cz (bz s x2)))]) []) (.need (s.length<4294967281) (.need (cy (b7 s)) (.ret (.tup [.agg [.i 1,.pd (.str (dp s)),.own 0],.p (.bool (eF s&&aO (dp s)&&(0:Int)==0&&jq ((aR (b7 s)).1)))]) [.own 92 .cell ((aR (b7 s)).1)]))))) fun Γ=>?_
 conv=>zeta
 refine ⟨fun h'=>absurd (show bm s b6=true from h') (by rw [h0]; simp),fun _=>⟨fun h'=>absurd (show bm s c6=true from h') (by rw [h1]; simp),fun _=>⟨hs,h,?_,rfl⟩⟩⟩
 have hb:(eF s&&cA ⟨1,dp s,(aR (b7 s)).1⟩)=(eF s&&aO (dp s)&&(0:Int)==0&&jq (aR (b7 s)).1):=by
  show (eF s&&(aO (dp s)&&jq (aR (b7 s)).1))=_
  rw [show ((0:Int)==0)=true from rfl,c8,dj]
 rw [hb]
theorem Nn (hs:s.length<4294967281) (h0:bm s b6=false) (h1:bm s c6=false) (h:¬cy (b7 s)) :
 ak Tryz.prog 122 [.s s] [] (.tup [.agg [.i 1,.pd (.str (dp s)),qm],.b false]) []:=by
 refine dg qT Tryz.func122 (let x1:=[(114:UInt8),97,105,115,101,58]; let x2:=[(115:UInt8),101,110,100,58]; let x3:=(Value.slice none 0 0); .ite (bm s x1) (.ret (.tup [.agg [.i 2,.pd (.str (bz s x1)),.pd (.v x3)],.p (.bool (cz (bz s x1)))]) []) (.ite (bm s x2) (.ret (.tup [.agg [.i 3,.pd (.str (bz s x2)),.pd (.v x3)],.p (.bool (cz (bz s x2)))]) []) (.need (s.length<4294967281) (.need (¬cy (b7 s)) (.ret (.tup [.agg [.i 1,.pd (.str (dp s)),.pd (.v x3)],.p (.bool (eF s&&aO (dp s)&&((aR (b7 s)).2).2==(0:Int)&&jq []))]) []))))) fun Γ=>?_
 conv=>zeta
 refine ⟨fun h'=>absurd (show bm s b6=true from h') (by rw [h0]; simp),fun _=>⟨fun h'=>absurd (show bm s c6=true from h') (by rw [h1]; simp),fun _=>⟨hs,h,?_,rfl⟩⟩⟩
 have h9:¬(aR (b7 s)).2.2=0:=h
 have:((aR (b7 s)).2.2==0)=false:=by simpa using h9
 rw [this,bA,cl]
noncomputable def Fg:Ent:=(122,fun
 | [.c (.pd (.str s))],[]=>some (some (bm s b6=true),.tup [.agg [.pd (.int .i64 2),.pd (.str (bz s b6)),.pd (.v (.slice none 0 0))],.c (.pd (.bool (cA ⟨2,bz s b6,[]⟩)))],[])
 | _,_=>none)
theorem LV:EntOk Tryz.prog Fg:=entOk fun vs ck=>by
 unfold Fg; dsimp only; split
 · rename_i s; exact entS fun hp=>KX s hp
 · exact entN
noncomputable def DM:Ent:=(122,fun
 | [.c (.pd (.str s))],[]=>some (some (bm s b6=false∧bm s c6=true),.tup [.agg [.pd (.int .i64 3),.pd (.str (bz s c6)),.pd (.v (.slice none 0 0))],.c (.pd (.bool (cA ⟨3,bz s c6,[]⟩)))],[])
 | _,_=>none)
theorem MA:EntOk Tryz.prog DM:=entOk fun vs ck=>by
 unfold DM; dsimp only; split
 · rename_i s; exact entS fun hp=>My s hp.1 hp.2
 · exact entN
noncomputable def Fo:Ent:=(122,fun
 | [.c (.pd (.str s))],[]=>some (some (s.length<4294967281∧bm s b6=false∧bm s c6=false∧cy (b7 s)),.tup [.agg [.pd (.int .i64 1),.pd (.str (dp s)),.own 0],.c (.pd (.bool (eF s&&cA ⟨1,dp s,(aR (b7 s)).1⟩)))],[.own 92 .cell (aR (b7 s)).1])
 | _,_=>none)
theorem Mo:EntOk Tryz.prog Fo:=entOk fun vs ck=>by
 unfold Fo; dsimp only; split
 · rename_i s; exact entS fun hp=>NL s hp.1 hp.2.1 hp.2.2.1 hp.2.2.2
 · exact entN
noncomputable def Fh:Ent:=(122,fun
 | [.c (.pd (.str s))],[]=>some (some (s.length<4294967281∧bm s b6=false∧bm s c6=false∧¬cy (b7 s)),.tup [.agg [.pd (.int .i64 1),.pd (.str (dp s)),.pd (.v (.slice none 0 0))],.c (.pd (.bool false))],[])
 | _,_=>none)
theorem Nf:EntOk Tryz.prog Fh:=entOk fun vs ck=>by
 unfold Fh; dsimp only; split
 · rename_i s; exact entS fun hp=>Nn s hp.1 hp.2.1 hp.2.2.1 hp.2.2.2
 · exact entN
/-! ### the document's -/
theorem OR {s:Str} {k:Nat} (hk:k<s.length) (hb:∀ c∈s.take k,(c==61)=false) (h:(s.getD k 0==61)=true):eF s=true∧dp s=s.take k∧b7 s=s.drop (k+1):=by
 have h1:s.getD k 0=s[k]:=by simp [List.getD_eq_getElem?_getD,hk]
 rw [h1] at h
 have hd:s.drop k=61::s.drop (k+1):=by rw [cZ hk,eq_of_beq h]
 have hs:s=s.take k++61::s.drop (k+1):=by rw [← hd,dJ]
 have ha:∀ x∈s.take k,(!(x==(61:UInt8)))=true:=fun x hx=>by rw [hb x hx]; rfl
 refine ⟨?_,?_,?_⟩
 · unfold eF; rw [da]; exact ⟨s[k],ew hk,h⟩
 · unfold dp
   conv=>lhs; rw [hs]
   rw [dZ ha]; simp
 · unfold b7
   conv=>lhs; rw [hs]
   rw [ee ha]; simp
end Go.Proofs.YtpfidgnkokidoaaGreatDoor
namespace Go.Proofs.YtpfidgnkokidoaaGreatDoor
open Go Go.Ev
set_option maxRecDepth 100000
variable (s:Str) (Γ:Ctx)
open Classical in
noncomputable def fk:Option Deed :=
 if bm s b6=true then (if cA ⟨2,bz s b6,[]⟩=true then some ⟨2,bz s b6,[]⟩ else none)
 else if bm s c6=true then (if cA ⟨3,bz s c6,[]⟩=true then some ⟨3,bz s c6,[]⟩ else none)
 else if eF s=true∧cy (b7 s)∧cA ⟨1,dp s,(aR (b7 s)).1⟩=true then some ⟨1,dp s,(aR (b7 s)).1⟩ else none
noncomputable def readAll:List Str→Option (List Deed)
 | []=>some []
 | p::r=>match fk p,readAll r with
   | some d,some l=>some (d::l)
   | _,_=>none
noncomputable def aL:List Deed×Int :=
 if af s>6000 then ([],4) else if (ba [] s).length>8 then ([],4) else match readAll (ba [] s) with
  | some l=>(l,0)
  | none=>([],1)
def aY:Prop:=(aL s).2=0
theorem xV {s:Str} (c2:bm s b6=false) (c3:bm s c6=false) (h:¬(eF s=true∧cy (b7 s)∧cA ⟨1,dp s,(aR (b7 s)).1⟩=true)):fk s=none:=by
 rw [fk,if_neg (by rw [c2]; simp),if_neg (by rw [c3]; simp),if_neg h]
theorem xa {s:Str} (c2:bm s b6=false) (c3:bm s c6=false) (h1:eF s=true) (h2:cy (b7 s)) (h3:cA ⟨1,dp s,(aR (b7 s)).1⟩=true):fk s=some ⟨1,dp s,(aR (b7 s)).1⟩:=by
 rw [fk,if_neg (by rw [c2]; simp),if_neg (by rw [c3]; simp),if_pos ⟨h1,h2,h3⟩]
def BQ:Out:=fun v ck=>(aY s→v = .tup [.c (.own 0),.i 0]∧ck=[.own 90 .deed (aL s).1])∧(¬aY s→v = .tup [.c qm,.i (aL s).2]∧ck=[])
theorem lR {s:Str} (h1:¬af s>6000) (h2:¬(ba [] s).length>8):aL s=match readAll (ba [] s) with | some l=>(l,0) | none=>([],1):=by
 rw [aL,if_neg h1,if_neg h2]
theorem G6 {s:Str} (h1:¬af s>6000) (h2:¬(ba [] s).length>8):aY s↔(readAll (ba [] s)).isSome=true:=by
 unfold aY
 rw [lR h1 h2]
 cases readAll (ba [] s) <;> simp
theorem Mv {s:Str} {ps:List Str} {l:List Deed} (hv:aL s=match readAll ps with | some l=>(l,0) | none=>([],1)) (h:readAll ps=some l):BQ s (.tup [.c (.own 0),.i 0]) [.own 90 .deed l]:=by
 rw [h] at hv
 refine ⟨fun _=>⟨rfl,by rw [hv]⟩,fun hn=>absurd ?_ hn⟩
 show (aL s).2=0; rw [hv]
theorem M7 {s:Str} {ps:List Str} (hv:aL s=match readAll ps with | some l=>(l,0) | none=>([],1)) (h:readAll ps=none):BQ s (.tup [.c qm,.i 1]) []:=by
 rw [h] at hv
 refine ⟨fun hn=>?_,fun _=>⟨by rw [hv],rfl⟩⟩
 have:(aL s).2=0:=hn
 rw [hv] at this; exact absurd this (by decide)
theorem C1 {s:Str} (h:af s>6000∨(ba [] s).length>8):BQ s (.tup [.c qm,.i 4]) []:=by
 have hv:aL s=([],4):=by
  unfold aL
  by_cases h1:af s>6000
  · rw [if_pos h1]
  · rw [if_neg h1,if_pos (h.resolve_left h1)]
 refine ⟨fun hn=>?_,fun _=>⟨by rw [hv],rfl⟩⟩
 have:(aL s).2=0:=hn
 rw [hv] at this; exact absurd this (by decide)
theorem rj:∀ (s cur:Str),∀ p∈ba cur s,p.length≤cur.length+s.length
 | [],cur,p,h=>by simp [ba] at h; subst h; simp
 | c :: r,cur,p,h=>by
   rw [ba] at h
   cases hc:c==59
   · rw [hc,cond_false] at h
     have:=rj r (cur++[c]) p h
     simp only [ag,ah,aj] at this ⊢; omega
   · rw [hc,cond_true] at h
     rcases aN.1 h with rfl | h
     · simp
     · have:=rj r [] p h
       simp only [aj,ah] at this ⊢; omega
/-! ### the program's -/
def Ly:Cfg:=⟨bu,[uf]⟩
theorem Kn:ai Tryz.prog Ly.tab:=(ai.cons Gz ai.nil)
noncomputable def D2:Cfg:=⟨bu,[Fg]⟩
theorem Br:ai Tryz.prog D2.tab:=(ai.cons LV ai.nil)
noncomputable def Ld:Cfg:=⟨bu,[DM]⟩
theorem JA:ai Tryz.prog Ld.tab:=(ai.cons MA ai.nil)
noncomputable def Lr:Cfg:=⟨bu,[Fo]⟩
theorem KS:ai Tryz.prog Lr.tab:=(ai.cons Mo ai.nil)
noncomputable def LB:Cfg:=⟨bu,[Fh]⟩
theorem KY:ai Tryz.prog LB.tab:=(ai.cons Nf ai.nil)
abbrev zUh1:List PI:=[.code [1,1,1,1,1,0,1,0,0],.inLoop [1,1,1,1,1,0,1,0,0],.inBlock 0,.code [1,1,1,1,1,1]]
theorem LK (hs:¬af s>6000) (h8:(ba [] s).length≤8):∀ (n k:Nat) (out:List Deed),(ba [] s).length - k≤n→k≤(ba [] s).length→out.length=k→readAll (ba [] s)=(readAll ((ba [] s).drop k)).map (out++·) →
 J Tryz.prog 87 (aH Tryz.f87) Γ (BQ s) zUh1 ({ n:=37,fr:=[(2,.p (.v (Value.slice none 0 0))),(3,.i 0),(5,.x (.c (.own 1))),(18,.x (.c (.own 0))),(19,.i (((ba [] s).length:Int))),(20,.i k)],ck:=[.own 9 .str (ba [] s),.own 90 .deed out] }):=by
 have hpl:∀ p∈ba [] s,p.length≤6000:=fun p hp=>by
  have:=rj s [] p hp
  have hL:af s=(s.length:Int):=rfl
  simp only [aj] at this; omega
 have hq:aY s↔(readAll (ba [] s)).isSome=true:=G6 hs (by omega)
 have hv:=lR hs (show ¬(ba [] s).length>8 by omega)
 generalize ba [] s=ps at *
 intro n
 induction n with
 | zero=>?_
 | succ n ih=>?_
 all_goals
  intro k out hn hk ho hall
  by_cases hk':k<ps.length
  · have hget:=ETy.getElem?_get (t:=.str) hk'
    have hp1:=hpl _ (List.mem_of_getElem? hget)
    have hdk:readAll (ps.drop k)=(match fk (ETy.get .str ps k),readAll (ps.drop (k+1)) with | some d,some l=>some (d::l) | _,_=>none):=by rw [bY (t:=.str) hk']; rfl
    have hno:fk (ETy.get .str ps k)=none→BQ s (.tup [.c qm,.i 1]) []:=fun hx=>by
     have h1:readAll ps=none:=by rw [hall,hdk,hx]; rfl
     exact M7 hv h1
    have hroom:∀ d:Deed,room (out++[d]).length 48:=fun d=>by rw [ag]; unfold room maxLen; simp only [ah,aj]; omega
    have next:∀ d,fk (ETy.get .str ps k)=some d→J Tryz.prog 87 (aH Tryz.f87) Γ (BQ s) zUh1 ({ n:=37,fr:=[(2,.p (.v (Value.slice none 0 0))),(3,.i 0),(5,.x (.c (.own 1))),(18,.x (.c (.own 0))),(19,.i ((ps.length:Int))),(20,.i (((k+1:Nat):Int)))],ck:=[.own 9 .str ps,.own 90 .deed (out++[d])] }):=fun d hd=>by
     first
     | (exfalso; omega)
     | exact ih (k+1) (out++[d]) (by omega) (by omega) (by simp; omega) (by
        rw [hall,hdk,hd]
        cases readAll (ps.drop (k+1)) <;> simp)
    have hw:IntKind.wrap .i64 ((k:Int)+1)=((k+1:Nat):Int):=dY (by omega)
    have hlt:decide ((k:Int)<(ps.length:Int))=true:=decide_eq_true (by omega)
    cases c2:bm (ETy.get .str ps k) b6
    · cases c3:bm (ETy.get .str ps k) c6
      · by_cases c1:cy (b7 (ETy.get .str ps k))
        · refine jg KS Tryz.func87 (let x1:Deed:={ kind:=(1:Int),name:=dp (ETy.get .str ps k),expr:=(aR (b7 (ETy.get .str ps k))).1 }; .ite (decide ((k:Int)<(ps.length:Int))) (.need (inRg k ps.length) (.need (k<ps.length) (.need ((ETy.get .str ps k).length<4294967281∧bm (ETy.get .str ps k) b6=false∧bm (ETy.get .str ps k) c6=false∧cy (b7 (ETy.get .str ps k))) (.ite (!(eF (ETy.get .str ps k)&&cA x1)) (.ret (.tup [.p (.v (Value.slice none 0 0)),.i 1]) []) (.need (room (List.length (out++[x1])) 48) (.stop zUh1 { n:=37,fr:=[(2,.p (.v (Value.slice none 0 0))),(3,.i 0),(5,.x (.c (.own 1))),(18,.x (.c (.own 0))),(19,.i ps.length),(20,.i (IntKind.wrap .i64 ((k:Int)+1)))],ck:=[.own 9 .str ps,.own 90 .deed (out++[x1])] })))))) (.ret (.tup [.c (.own 0),.i 0]) [.own 90 .deed out])) ?_
          conv=>zeta
          rw [hlt,hw]
          generalize ETy.get .str ps k=p at *
          refine ⟨fun _=>⟨by omega,hk',⟨by omega,c2,c3,c1⟩,fun hb=>hno ?_,fun hb=>⟨hroom _,next _ ?_⟩⟩,fun x=>Bool.noConfusion x⟩
          · exact xV c2 c3 (fun ⟨g1,g2,g3⟩=>by
             have hb':=nt hb
             rw [g1,g3] at hb'; cases hb')
          · have hb':=nf hb
            rw [ab] at hb'
            exact xa c2 c3 hb'.1 c1 hb'.2
        · refine jg KY Tryz.func87 (.ite (decide ((k:Int)<(ps.length:Int))) (.need (inRg k ps.length) (.need (k<ps.length) (.need ((ETy.get .str ps k).length<4294967281∧bm (ETy.get .str ps k) b6=false∧bm (ETy.get .str ps k) c6=false∧¬cy (b7 (ETy.get .str ps k))) (.ite true (.ret (.tup [.p (.v (Value.slice none 0 0)),.i 1]) []) (.need (room (List.length (out++[{ kind:=(1:Int),name:=dp (ETy.get .str ps k),expr:=[] }])) 48) (.stop zUh1 { n:=37,fr:=[(2,.p (.v (Value.slice none 0 0))),(3,.i 0),(5,.x (.c (.own 1))),(18,.x (.c (.own 0))),(19,.i ps.length),(20,.i (IntKind.wrap .i64 ((k:Int)+1)))],ck:=[.own 9 .str ps,.own 90 .deed (out++[{ kind:=(1:Int),name:=dp (ETy.get .str ps k),expr:=[] }])] })))))) (.ret (.tup [.c (.own 0),.i 0]) [.own 90 .deed out])) ?_
          rw [hlt]
          generalize ETy.get .str ps k=p at *
          refine ⟨fun _=>⟨by omega,hk',⟨by omega,c2,c3,c1⟩,fun _=>hno ?_,fun x=>Bool.noConfusion x⟩,fun x=>Bool.noConfusion x⟩
          exact xV c2 c3 (fun ⟨g1,g2,g3⟩=>c1 (g2))
      · refine jg JA Tryz.func87 (let x1:Deed:={ kind:=(3:Int),name:=bz (ETy.get .str ps k) c6,expr:=[] }; .ite (decide ((k:Int)<(ps.length:Int))) (.need (inRg k ps.length) (.need (k<ps.length) (.need (bm (ETy.get .str ps k) b6=false∧bm (ETy.get .str ps k) c6=true) (.ite (!cA x1) (.ret (.tup [.p (.v (Value.slice none 0 0)),.i 1]) []) (.need (room (List.length (out++[x1])) 48) (.stop zUh1 { n:=37,fr:=[(2,.p (.v (Value.slice none 0 0))),(3,.i 0),(5,.x (.c (.own 1))),(18,.x (.c (.own 0))),(19,.i ps.length),(20,.i (IntKind.wrap .i64 ((k:Int)+1)))],ck:=[.own 9 .str ps,.own 90 .deed (out++[x1])] })))))) (.ret (.tup [.c (.own 0),.i 0]) [.own 90 .deed out])) ?_
        conv=>zeta
        rw [hlt,hw]
        generalize ETy.get .str ps k=p at *
        refine ⟨fun _=>⟨by omega,hk',⟨c2,c3⟩,fun hb=>hno ?_,fun hb=>⟨hroom _,next _ ?_⟩⟩,fun x=>Bool.noConfusion x⟩
        · have hb':=nt hb
          simp only [fk,c2,c3,hb',cD,if_false,if_true]
        · have hb':=nf hb
          simp only [fk,c2,c3,hb',cD,if_false,if_true]
    · refine jg Br Tryz.func87 (let x1:Deed:={ kind:=(2:Int),name:=bz (ETy.get .str ps k) b6,expr:=[] }; .ite (decide ((k:Int)<(ps.length:Int))) (.need (inRg k ps.length) (.need (k<ps.length) (.need (bm (ETy.get .str ps k) b6=true) (.ite (!cA x1) (.ret (.tup [.p (.v (Value.slice none 0 0)),.i 1]) []) (.need (room (List.length (out++[x1])) 48) (.stop zUh1 { n:=37,fr:=[(2,.p (.v (Value.slice none 0 0))),(3,.i 0),(5,.x (.c (.own 1))),(18,.x (.c (.own 0))),(19,.i ps.length),(20,.i (IntKind.wrap .i64 ((k:Int)+1)))],ck:=[.own 9 .str ps,.own 90 .deed (out++[x1])] })))))) (.ret (.tup [.c (.own 0),.i 0]) [.own 90 .deed out])) ?_
      conv=>zeta
      rw [hlt,hw]
      generalize ETy.get .str ps k=p at *
      refine ⟨fun _=>⟨by omega,hk',c2,fun hb=>hno ?_,fun hb=>⟨hroom _,next _ ?_⟩⟩,fun x=>Bool.noConfusion x⟩
      · have hb':=nt hb
        simp only [fk,c2,hb',cD,if_false,if_true]
      · have hb':=nf hb
        simp only [fk,c2,hb',cD,if_false,if_true]
  · refine jg Br Tryz.func87 (let x1:Deed:={ kind:=(2:Int),name:=bz (ETy.get .str ps k) b6,expr:=[] }; .ite (decide ((k:Int)<(ps.length:Int))) (.need (inRg k ps.length) (.need (k<ps.length) (.need (bm (ETy.get .str ps k) b6=true) (.ite (!cA x1) (.ret (.tup [.p (.v (Value.slice none 0 0)),.i 1]) []) (.need (room (List.length (out++[x1])) 48) (.stop zUh1 { n:=37,fr:=[(2,.p (.v (Value.slice none 0 0))),(3,.i 0),(5,.x (.c (.own 1))),(18,.x (.c (.own 0))),(19,.i ps.length),(20,.i (IntKind.wrap .i64 ((k:Int)+1)))],ck:=[.own 9 .str ps,.own 90 .deed (out++[x1])] })))))) (.ret (.tup [.c (.own 0),.i 0]) [.own 90 .deed out])) ?_
    conv=>zeta
    rw [show decide ((k:Int)<(ps.length:Int))=false from decide_eq_false (by omega)]
    refine ⟨fun x=>Bool.noConfusion x,fun _=>?_⟩
    rw [b9 (l:=ps) (by omega)] at hall
    exact Mv hv (by rw [hall]; simp [readAll])
theorem BC:J Tryz.prog 87 (aH Tryz.f87) Γ (BQ s) [.code []] (cL Tryz.f87.ntmps [.s s] []):=by
 refine jg Kn Tryz.func87 (.ite (decide (af s>(6000:Int))) (.ret (.tup [.p (.v (Value.slice none 0 0)),.i 4]) []) (.need (s.length<4294967281) (.ite (decide ((↑((ba [] s).length):Int)>8)) (.ret (.tup [.p (.v (Value.slice none 0 0)),.i 4]) []) (.stop zUh1 { n:=37,fr:=[(2,.p (.v (Value.slice none 0 0))),(3,.i 0),(5,.p (.v (Value.slice none 0 0))),(18,.x (.c (.own 0))),(19,.i (↑((ba [] s).length):Int)),(20,.i 0)],ck:=[.own 9 .str (ba [] s)] })))) ?_
 have hL:af s=(s.length:Int):=rfl
 refine ⟨fun h=>C1 (.inl (of_decide_eq_true h)),fun h=>?_⟩
 have hs:¬af s>6000:=of_decide_eq_false h
 refine ⟨by omega,fun h8=>C1 (.inr (by have:=of_decide_eq_true h8; omega)),fun h8=>?_⟩
 have h8':(ba [] s).length≤8:=by have:=of_decide_eq_false h8; omega
 refine J.nilOwn 5 90 .deed rfl (by kernel_rfl) ?_
 exact LK s Γ hs h8' (ba [] s).length 0 [] (by omega) (by omega) rfl (by simp)
theorem Is (h:aY s):ak Tryz.prog 87 [.s s] [] (.tup [.c (.own 0),.i 0]) [.own 90 .deed (aL s).1] :=
 ak.of Tryz.func87 (by kernel_rfl) (by kernel_rfl) fun Γ=>J.mono (fun v ck hq=>hq.1 h) (BC s Γ)
theorem EJ (h:¬aY s):ak Tryz.prog 87 [.s s] [] (.tup [.c qm,.i (aL s).2]) [] :=
 ak.of Tryz.func87 (by kernel_rfl) (by kernel_rfl) fun Γ=>J.mono (fun v ck hq=>hq.2 h) (BC s Γ)
noncomputable def wO:Ent:=(87,fun
 | [.c (.pd (.str s))],[]=>some (some (aY s),.tup [.c (.own 0),.c (.pd (.int .i64 0))],[.own 90 .deed (aL s).1])
 | _,_=>none)
theorem vW:EntOk Tryz.prog wO:=entOk fun vs ck=>by
 unfold wO; dsimp only; split
 · rename_i s; exact entS fun hp=>Is s hp
 · exact entN
noncomputable def wm:Ent:=(87,fun
 | [.c (.pd (.str s))],[]=>some (some (¬aY s),.tup [.c (.pd (.v (.slice none 0 0))),.c (.pd (.int .i64 (aL s).2))],[])
 | _,_=>none)
theorem wg:EntOk Tryz.prog wm:=entOk fun vs ck=>by
 unfold wm; dsimp only; split
 · rename_i s; exact entS fun hp=>EJ s hp
 · exact entN
end Go.Proofs.YtpfidgnkokidoaaGreatDoor
