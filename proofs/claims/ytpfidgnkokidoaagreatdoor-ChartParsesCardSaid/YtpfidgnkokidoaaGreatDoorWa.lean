/- Contracts: blocks read. Conditions: none. Contracts: blocks read, the document's. Conditions: none. Plain laws: what blocks' texts are made of; what is told is read. Conditions: each theorem's own. Plain: a chart's lines, read. Conditions: none. -/
import Derived.Test.YtpfidgnkokidoaaGreatDoorUg
namespace Go.Proofs.YtpfidgnkokidoaaGreatDoor
open Go Go.Ev
set_option maxRecDepth 100000
variable (s:Str) (Γ:Ctx)
open Classical in
noncomputable def fS:Option Deed :=
 if aS s bB=true then (if bW ⟨2,bf s bB,[]⟩=true then some ⟨2,bf s bB,[]⟩ else none)
 else if aS s cv=true then (if bW ⟨3,bf s cv,[]⟩=true then some ⟨3,bf s cv,[]⟩ else none)
 else if df s=true∧bC (bO s)∧bW ⟨1,da s,(aO (bO s)).1⟩=true then some ⟨1,da s,(aO (bO s)).1⟩ else none
noncomputable def readAll:List Str→Option (List Deed)
 | []=>some []
 | p::r=>match fS p,readAll r with
   | some d,some l=>some (d::l)
   | _,_=>none
noncomputable def aF:List Deed×Int :=
 if ab s>6000 then ([],4) else if (ba [] s).length>8 then ([],4) else match readAll (ba [] s) with
  | some l=>(l,0)
  | none=>([],1)
def aK:Prop:=(aF s).2=0
theorem mm {s:Str} (c2:aS s bB=false) (c3:aS s cv=false) (h:¬(df s=true∧bC (bO s)∧bW ⟨1,da s,(aO (bO s)).1⟩=true)):fS s=none:=by
 rw [fS,if_neg (by rw [c2]; simp),if_neg (by rw [c3]; simp),if_neg h]
theorem wa {s:Str} (c2:aS s bB=false) (c3:aS s cv=false) (h1:df s=true) (h2:bC (bO s)) (h3:bW ⟨1,da s,(aO (bO s)).1⟩=true):fS s=some ⟨1,da s,(aO (bO s)).1⟩:=by
 rw [fS,if_neg (by rw [c2]; simp),if_neg (by rw [c3]; simp),if_pos ⟨h1,h2,h3⟩]
def BQ:Out:=fun v ck=>(aK s→v = .tup [.c (.own 0),.i 0]∧ck=[.own 90 .deed (aF s).1])∧(¬aK s→v = .tup [.c jc,.i (aF s).2]∧ck=[])
theorem nY {s:Str} (h1:¬ab s>6000) (h2:¬(ba [] s).length>8):aF s=match readAll (ba [] s) with | some l=>(l,0) | none=>([],1):=by
 rw [aF,if_neg h1,if_neg h2]
theorem vR {s:Str} (h1:¬ab s>6000) (h2:¬(ba [] s).length>8):aK s↔(readAll (ba [] s)).isSome=true:=by
 unfold aK
 rw [nY h1 h2]
 cases readAll (ba [] s) <;> simp
theorem BS {s:Str} {ps:List Str} {l:List Deed} (hv:aF s=match readAll ps with | some l=>(l,0) | none=>([],1)) (h:readAll ps=some l):BQ s (.tup [.c (.own 0),.i 0]) [.own 90 .deed l]:=by
 rw [h] at hv
 refine ⟨fun _=>⟨rfl,by rw [hv]⟩,fun hn=>absurd ?_ hn⟩
 show (aF s).2=0; rw [hv]
theorem By {s:Str} {ps:List Str} (hv:aF s=match readAll ps with | some l=>(l,0) | none=>([],1)) (h:readAll ps=none):BQ s (.tup [.c jc,.i 1]) []:=by
 rw [h] at hv
 refine ⟨fun hn=>?_,fun _=>⟨by rw [hv],rfl⟩⟩
 have:(aF s).2=0:=hn
 rw [hv] at this; exact absurd this (by decide)
theorem qe {s:Str} (h:ab s>6000∨(ba [] s).length>8):BQ s (.tup [.c jc,.i 4]) []:=by
 have hv:aF s=([],4):=by
  unfold aF
  by_cases h1:ab s>6000
  · rw [if_pos h1]
  · rw [if_neg h1,if_pos (h.resolve_left h1)]
 refine ⟨fun hn=>?_,fun _=>⟨by rw [hv],rfl⟩⟩
 have:(aF s).2=0:=hn
 rw [hv] at this; exact absurd this (by decide)
theorem lQ:∀ (s cur:Str),∀ p∈ba cur s,p.length≤cur.length+s.length
 | [],cur,p,h=>by simp [ba] at h; subst h; simp
 | c :: r,cur,p,h=>by
   rw [ba] at h
   cases hc:c==59
   · rw [hc,cond_false] at h
     have:=lQ r (cur++[c]) p h
     simp only [aj,ai,al] at this ⊢; omega
   · rw [hc,cond_true] at h
     rcases bg.1 h with rfl | h
     · simp
     · have:=lQ r [] p h
       simp only [al,ai] at this ⊢; omega
/-! ### the program's -/
def Kn:Cfg:=⟨a6,[tA]⟩
theorem HM:ah Tryz.prog Kn.tab:=(ah.cons Gk ah.nil)
noncomputable def DU:Cfg:=⟨a6,[C8]⟩
theorem Ah:ah Tryz.prog DU.tab:=(ah.cons Mq ah.nil)
noncomputable def Ko:Cfg:=⟨a6,[Es]⟩
theorem JW:ah Tryz.prog Ko.tab:=(ah.cons K1 ah.nil)
noncomputable def KI:Cfg:=⟨a6,[Cf]⟩
theorem IJ:ah Tryz.prog KI.tab:=(ah.cons MA ah.nil)
noncomputable def Kz:Cfg:=⟨a6,[CA]⟩
theorem I4:ah Tryz.prog Kz.tab:=(ah.cons Mr ah.nil)
abbrev zUh1:List PI:=[.code [1,1,1,1,1,0,1,0,0],.inLoop [1,1,1,1,1,0,1,0,0],.inBlock 0,.code [1,1,1,1,1,1]]
theorem Lp (hs:¬ab s>6000) (h8:(ba [] s).length≤8):∀ (n k:Nat) (out:List Deed),(ba [] s).length - k≤n→k≤(ba [] s).length→out.length=k→readAll (ba [] s)=(readAll ((ba [] s).drop k)).map (out++·) →
 J Tryz.prog 87 (az Tryz.f87) Γ (BQ s) zUh1 ({ n:=37,fr:=[(2,.p (.v (Value.slice none 0 0))),(3,.i 0),(5,.x (.c (.own 1))),(18,.x (.c (.own 0))),(19,.i (((ba [] s).length:Int))),(20,.i k)],ck:=[.own 9 .str (ba [] s),.own 90 .deed out] }):=by
 have hpl:∀ p∈ba [] s,p.length≤6000:=fun p hp=>by
  have:=lQ s [] p hp
  have hL:ab s=(s.length:Int):=rfl
  simp only [al] at this; omega
 have hq:aK s↔(readAll (ba [] s)).isSome=true:=vR hs (by omega)
 have hv:=nY hs (show ¬(ba [] s).length>8 by omega)
 generalize ba [] s=ps at *
 intro n
 induction n with
 | zero=>?_
 | succ n ih=>?_
 all_goals
  intro k out hn hk ho hall
  by_cases hk':k<ps.length
  · have hget:=ETy.getElem?_get (t:=.str) hk'
    have hp1:=hpl _ (List.mem_of_getElem? hget)
    have hdk:readAll (ps.drop k)=(match fS (ETy.get .str ps k),readAll (ps.drop (k+1)) with | some d,some l=>some (d::l) | _,_=>none):=by rw [dw (t:=.str) hk']; rfl
    have hno:fS (ETy.get .str ps k)=none→BQ s (.tup [.c jc,.i 1]) []:=fun hx=>by
     have h1:readAll ps=none:=by rw [hall,hdk,hx]; rfl
     exact By hv h1
    have hroom:∀ d:Deed,room (out++[d]).length 48:=fun d=>by rw [aj]; unfold room maxLen; simp only [ai,al]; omega
    have next:∀ d,fS (ETy.get .str ps k)=some d→J Tryz.prog 87 (az Tryz.f87) Γ (BQ s) zUh1 ({ n:=37,fr:=[(2,.p (.v (Value.slice none 0 0))),(3,.i 0),(5,.x (.c (.own 1))),(18,.x (.c (.own 0))),(19,.i ((ps.length:Int))),(20,.i (((k+1:Nat):Int)))],ck:=[.own 9 .str ps,.own 90 .deed (out++[d])] }):=fun d hd=>by
     first
     | (exfalso; omega)
     | exact ih (k+1) (out++[d]) (by omega) (by omega) (by simp; omega) (by
        rw [hall,hdk,hd]
        cases readAll (ps.drop (k+1)) <;> simp)
    have hw:IntKind.wrap .i64 ((k:Int)+1)=((k+1:Nat):Int):=cU (by omega)
    have hlt:decide ((k:Int)<(ps.length:Int))=true:=decide_eq_true (by omega)
    cases c2:aS (ETy.get .str ps k) bB
    · cases c3:aS (ETy.get .str ps k) cv
      · by_cases c1:bC (bO (ETy.get .str ps k))
        · refine jg IJ Tryz.func87 (let x1:Deed:={ kind:=(1:Int),name:=da (ETy.get .str ps k),expr:=(aO (bO (ETy.get .str ps k))).1 }; .ite (decide ((k:Int)<(ps.length:Int))) (.need (inRg k ps.length) (.need (k<ps.length) (.need ((ETy.get .str ps k).length<4294967281∧aS (ETy.get .str ps k) bB=false∧aS (ETy.get .str ps k) cv=false∧bC (bO (ETy.get .str ps k))) (.ite (!(df (ETy.get .str ps k)&&bW x1)) (.ret (.tup [.p (.v (Value.slice none 0 0)),.i 1]) []) (.need (room (List.length (out++[x1])) 48) (.stop zUh1 { n:=37,fr:=[(2,.p (.v (Value.slice none 0 0))),(3,.i 0),(5,.x (.c (.own 1))),(18,.x (.c (.own 0))),(19,.i ps.length),(20,.i (IntKind.wrap .i64 ((k:Int)+1)))],ck:=[.own 9 .str ps,.own 90 .deed (out++[x1])] })))))) (.ret (.tup [.c (.own 0),.i 0]) [.own 90 .deed out])) ?_
          conv=>zeta
          rw [hlt,hw]
          generalize ETy.get .str ps k=p at *
          refine ⟨fun _=>⟨by omega,hk',⟨by omega,c2,c3,c1⟩,fun hb=>hno ?_,fun hb=>⟨hroom _,next _ ?_⟩⟩,fun x=>Bool.noConfusion x⟩
          · exact mm c2 c3 (fun ⟨g1,g2,g3⟩=>by
             have hb':=nt hb
             rw [g1,g3] at hb'; cases hb')
          · have hb':=nf hb
            rw [af] at hb'
            exact wa c2 c3 hb'.1 c1 hb'.2
        · refine jg I4 Tryz.func87 (.ite (decide ((k:Int)<(ps.length:Int))) (.need (inRg k ps.length) (.need (k<ps.length) (.need ((ETy.get .str ps k).length<4294967281∧aS (ETy.get .str ps k) bB=false∧aS (ETy.get .str ps k) cv=false∧¬bC (bO (ETy.get .str ps k))) (.ite true (.ret (.tup [.p (.v (Value.slice none 0 0)),.i 1]) []) (.need (room (List.length (out++[{ kind:=(1:Int),name:=da (ETy.get .str ps k),expr:=[] }])) 48) (.stop zUh1 { n:=37,fr:=[(2,.p (.v (Value.slice none 0 0))),(3,.i 0),(5,.x (.c (.own 1))),(18,.x (.c (.own 0))),(19,.i ps.length),(20,.i (IntKind.wrap .i64 ((k:Int)+1)))],ck:=[.own 9 .str ps,.own 90 .deed (out++[{ kind:=(1:Int),name:=da (ETy.get .str ps k),expr:=[] }])] })))))) (.ret (.tup [.c (.own 0),.i 0]) [.own 90 .deed out])) ?_
          rw [hlt]
          generalize ETy.get .str ps k=p at *
          refine ⟨fun _=>⟨by omega,hk',⟨by omega,c2,c3,c1⟩,fun _=>hno ?_,fun x=>Bool.noConfusion x⟩,fun x=>Bool.noConfusion x⟩
          exact mm c2 c3 (fun ⟨g1,g2,g3⟩=>c1 (g2))
      · refine jg JW Tryz.func87 (let x1:Deed:={ kind:=(3:Int),name:=bf (ETy.get .str ps k) cv,expr:=[] }; .ite (decide ((k:Int)<(ps.length:Int))) (.need (inRg k ps.length) (.need (k<ps.length) (.need (aS (ETy.get .str ps k) bB=false∧aS (ETy.get .str ps k) cv=true) (.ite (!bW x1) (.ret (.tup [.p (.v (Value.slice none 0 0)),.i 1]) []) (.need (room (List.length (out++[x1])) 48) (.stop zUh1 { n:=37,fr:=[(2,.p (.v (Value.slice none 0 0))),(3,.i 0),(5,.x (.c (.own 1))),(18,.x (.c (.own 0))),(19,.i ps.length),(20,.i (IntKind.wrap .i64 ((k:Int)+1)))],ck:=[.own 9 .str ps,.own 90 .deed (out++[x1])] })))))) (.ret (.tup [.c (.own 0),.i 0]) [.own 90 .deed out])) ?_
        conv=>zeta
        rw [hlt,hw]
        generalize ETy.get .str ps k=p at *
        refine ⟨fun _=>⟨by omega,hk',⟨c2,c3⟩,fun hb=>hno ?_,fun hb=>⟨hroom _,next _ ?_⟩⟩,fun x=>Bool.noConfusion x⟩
        · have hb':=nt hb
          simp only [fS,c2,c3,hb',bR,if_false,if_true]
        · have hb':=nf hb
          simp only [fS,c2,c3,hb',bR,if_false,if_true]
    · refine jg Ah Tryz.func87 (let x1:Deed:={ kind:=(2:Int),name:=bf (ETy.get .str ps k) bB,expr:=[] }; .ite (decide ((k:Int)<(ps.length:Int))) (.need (inRg k ps.length) (.need (k<ps.length) (.need (aS (ETy.get .str ps k) bB=true) (.ite (!bW x1) (.ret (.tup [.p (.v (Value.slice none 0 0)),.i 1]) []) (.need (room (List.length (out++[x1])) 48) (.stop zUh1 { n:=37,fr:=[(2,.p (.v (Value.slice none 0 0))),(3,.i 0),(5,.x (.c (.own 1))),(18,.x (.c (.own 0))),(19,.i ps.length),(20,.i (IntKind.wrap .i64 ((k:Int)+1)))],ck:=[.own 9 .str ps,.own 90 .deed (out++[x1])] })))))) (.ret (.tup [.c (.own 0),.i 0]) [.own 90 .deed out])) ?_
      conv=>zeta
      rw [hlt,hw]
      generalize ETy.get .str ps k=p at *
      refine ⟨fun _=>⟨by omega,hk',c2,fun hb=>hno ?_,fun hb=>⟨hroom _,next _ ?_⟩⟩,fun x=>Bool.noConfusion x⟩
      · have hb':=nt hb
        simp only [fS,c2,hb',bR,if_false,if_true]
      · have hb':=nf hb
        simp only [fS,c2,hb',bR,if_false,if_true]
  · refine jg Ah Tryz.func87 (let x1:Deed:={ kind:=(2:Int),name:=bf (ETy.get .str ps k) bB,expr:=[] }; .ite (decide ((k:Int)<(ps.length:Int))) (.need (inRg k ps.length) (.need (k<ps.length) (.need (aS (ETy.get .str ps k) bB=true) (.ite (!bW x1) (.ret (.tup [.p (.v (Value.slice none 0 0)),.i 1]) []) (.need (room (List.length (out++[x1])) 48) (.stop zUh1 { n:=37,fr:=[(2,.p (.v (Value.slice none 0 0))),(3,.i 0),(5,.x (.c (.own 1))),(18,.x (.c (.own 0))),(19,.i ps.length),(20,.i (IntKind.wrap .i64 ((k:Int)+1)))],ck:=[.own 9 .str ps,.own 90 .deed (out++[x1])] })))))) (.ret (.tup [.c (.own 0),.i 0]) [.own 90 .deed out])) ?_
    conv=>zeta
    rw [show decide ((k:Int)<(ps.length:Int))=false from decide_eq_false (by omega)]
    refine ⟨fun x=>Bool.noConfusion x,fun _=>?_⟩
    rw [dy (l:=ps) (by omega)] at hall
    exact BS hv (by rw [hall]; simp [readAll])
theorem Aw:J Tryz.prog 87 (az Tryz.f87) Γ (BQ s) [.code []] (bX Tryz.f87.ntmps [.s s] []):=by
 refine jg HM Tryz.func87 (.ite (decide (ab s>(6000:Int))) (.ret (.tup [.p (.v (Value.slice none 0 0)),.i 4]) []) (.need (s.length<4294967281) (.ite (decide ((↑((ba [] s).length):Int)>8)) (.ret (.tup [.p (.v (Value.slice none 0 0)),.i 4]) []) (.stop zUh1 { n:=37,fr:=[(2,.p (.v (Value.slice none 0 0))),(3,.i 0),(5,.p (.v (Value.slice none 0 0))),(18,.x (.c (.own 0))),(19,.i (↑((ba [] s).length):Int)),(20,.i 0)],ck:=[.own 9 .str (ba [] s)] })))) ?_
 have hL:ab s=(s.length:Int):=rfl
 refine ⟨fun h=>qe (.inl (of_decide_eq_true h)),fun h=>?_⟩
 have hs:¬ab s>6000:=of_decide_eq_false h
 refine ⟨by omega,fun h8=>qe (.inr (by have:=of_decide_eq_true h8; omega)),fun h8=>?_⟩
 have h8':(ba [] s).length≤8:=by have:=of_decide_eq_false h8; omega
 refine J.nilOwn 5 90 .deed rfl (by kernel_rfl) ?_
 exact Lp s Γ hs h8' (ba [] s).length 0 [] (by omega) (by omega) rfl (by simp)
theorem Fh (h:aK s):ak Tryz.prog 87 [.s s] [] (.tup [.c (.own 0),.i 0]) [.own 90 .deed (aF s).1] :=
 ak.of Tryz.func87 (by kernel_rfl) (by kernel_rfl) fun Γ=>J.mono (fun v ck hq=>hq.1 h) (Aw s Γ)
theorem D5 (h:¬aK s):ak Tryz.prog 87 [.s s] [] (.tup [.c jc,.i (aF s).2]) [] :=
 ak.of Tryz.func87 (by kernel_rfl) (by kernel_rfl) fun Γ=>J.mono (fun v ck hq=>hq.2 h) (Aw s Γ)
noncomputable def uK:Ent:=(87,fun
 | [.c (.pd (.str s))],[]=>some (some (aK s),.tup [.c (.own 0),.c (.pd (.int .i64 0))],[.own 90 .deed (aF s).1])
 | _,_=>none)
theorem uh:EntOk Tryz.prog uK:=entOk fun vs ck=>by
 unfold uK; dsimp only; split
 · rename_i s; exact entS fun hp=>Fh s hp
 · exact entN
noncomputable def uA:Ent:=(87,fun
 | [.c (.pd (.str s))],[]=>some (some (¬aK s),.tup [.c (.pd (.v (.slice none 0 0))),.c (.pd (.int .i64 (aF s).2))],[])
 | _,_=>none)
theorem uZ:EntOk Tryz.prog uA:=entOk fun vs ck=>by
 unfold uA; dsimp only; split
 · rename_i s; exact entS fun hp=>D5 s hp
 · exact entN
end Go.Proofs.YtpfidgnkokidoaaGreatDoor
namespace Go.Proofs.YtpfidgnkokidoaaGreatDoor
open Go Go.Ev
set_option maxRecDepth 100000
abbrev zJ95Ui:=J Tryz.prog 95 (az Tryz.f95)
noncomputable def C2:Cfg:=⟨a6,[Cp]⟩
theorem yG:ah Tryz.prog C2.tab:=(ah.cons LB ah.nil)
noncomputable def KM:Cfg:=⟨a6,[CM]⟩
theorem JZ:ah Tryz.prog KM.tab:=(ah.cons Lo ah.nil)
noncomputable def Ky:Cfg:=⟨a6,[CL]⟩
theorem IH:ah Tryz.prog Ky.tab:=(ah.cons Mg ah.nil)
noncomputable def KQ:Cfg:=⟨a6,[C5]⟩
theorem Ii:ah Tryz.prog KQ.tab:=(ah.cons Mn ah.nil)
abbrev zUi1:List PI:=[.code [1,1,1,1,1,1,1,0,1,0,0],.inLoop [1,1,1,1,1,1,1,0,1,0,0],.inBlock 2,.code [1,1,1,1,1,1,1,1]]
variable (s:Str) (Γ:Ctx)
theorem Lq (hs:¬ab s>6000) (h8:(ba [] s).length≤8):∀ (n k:Nat) (out:List Deed),(ba [] s).length - k≤n→k≤(ba [] s).length→out.length=k→readAll (ba [] s)=(readAll ((ba [] s).drop k)).map (out++·) →
 zJ95Ui Γ (BQ s) zUi1 ({ n:=63,fr:=[(2,.p (.v (Value.slice none 0 0))),(3,.i 0),(4,.x (.c (.own 0))),(7,.x (.c (.own 1))),(8,.i k)],ck:=[.own 9 .str (ba [] s),.own 90 .deed out] }):=by
 have hpl:∀ p∈ba [] s,p.length≤6000:=fun p hp=>by
  have:=lQ s [] p hp
  have hL:ab s=(s.length:Int):=rfl
  simp only [al] at this; omega
 have hq:aK s↔(readAll (ba [] s)).isSome=true:=vR hs (by omega)
 have hv:=nY hs (show ¬(ba [] s).length>8 by omega)
 generalize ba [] s=ps at *
 intro n
 induction n with
 | zero=>?_
 | succ n ih=>?_
 all_goals
  intro k out hn hk ho hall
  by_cases hk':k<ps.length
  · have hget:=ETy.getElem?_get (t:=.str) hk'
    have hp1:=hpl _ (List.mem_of_getElem? hget)
    have hdk:readAll (ps.drop k)=(match fS (ETy.get .str ps k),readAll (ps.drop (k+1)) with | some d,some l=>some (d::l) | _,_=>none):=by rw [dw (t:=.str) hk']; rfl
    have hno:fS (ETy.get .str ps k)=none→BQ s (.tup [.c jc,.i 1]) []:=fun hx=>by
     have h1:readAll ps=none:=by rw [hall,hdk,hx]; rfl
     exact By hv h1
    have hroom:∀ d:Deed,room (out++[d]).length 48:=fun d=>by rw [aj]; unfold room maxLen; simp only [ai,al]; omega
    have next:∀ d,fS (ETy.get .str ps k)=some d→zJ95Ui Γ (BQ s) zUi1 ({ n:=63,fr:=[(2,.p (.v (Value.slice none 0 0))),(3,.i 0),(4,.x (.c (.own 0))),(7,.x (.c (.own 1))),(8,.i (((k+1:Nat):Int)))],ck:=[.own 9 .str ps,.own 90 .deed (out++[d])] }):=fun d hd=>by
     first
     | (exfalso; omega)
     | exact ih (k+1) (out++[d]) (by omega) (by omega) (by simp; omega) (by
        rw [hall,hdk,hd]
        cases readAll (ps.drop (k+1)) <;> simp)
    have hw:IntKind.wrap .i64 ((k:Int)+1)=((k+1:Nat):Int):=cU (by omega)
    have hlt:decide ((k:Int)<(ps.length:Int))=true:=decide_eq_true (by omega)
    cases c2:aS (ETy.get .str ps k) bB
    · cases c3:aS (ETy.get .str ps k) cv
      · by_cases c1:df (ETy.get .str ps k)=true∧bC (bO (ETy.get .str ps k))
        · refine jg IH Tryz.func95 (let x1:Deed:={ kind:=(1:Int),name:=da (ETy.get .str ps k),expr:=(aO (bO (ETy.get .str ps k))).1 }; .ite (decide ((k:Int)<(ps.length:Int))) (.need (inRg k ps.length) (.need (k<ps.length) (.need ((ETy.get .str ps k).length≤1048576∧aS (ETy.get .str ps k) bB=false∧aS (ETy.get .str ps k) cv=false∧df (ETy.get .str ps k)=true∧bC (bO (ETy.get .str ps k))) (.ite (!bW x1) (.ret (.tup [.p (.v (Value.slice none 0 0)),.i 1]) []) (.need (room (List.length (out++[x1])) 48) (.stop zUi1 { n:=63,fr:=[(2,.p (.v (Value.slice none 0 0))),(3,.i 0),(4,.x (.c (.own 0))),(7,.x (.c (.own 1))),(8,.i (IntKind.wrap .i64 ((k:Int)+1)))],ck:=[.own 9 .str ps,.own 90 .deed (out++[x1])] })))))) (.ret (.tup [.c (.own 0),.i 0]) [.own 90 .deed out])) ?_
          conv=>zeta
          rw [hlt,hw]
          generalize ETy.get .str ps k=p at *
          refine ⟨fun _=>⟨by omega,hk',⟨by omega,c2,c3,c1⟩,fun hb=>hno ?_,fun hb=>⟨hroom _,next _ ?_⟩⟩,fun x=>Bool.noConfusion x⟩
          · exact mm c2 c3 (fun ⟨g1,g2,g3⟩=>by
             have hb':=nt hb
             rw [g3] at hb'; cases hb')
          · have hb':=nf hb
            exact wa c2 c3 c1.1 c1.2 hb'
        · refine jg Ii Tryz.func95 (.ite (decide ((k:Int)<(ps.length:Int))) (.need (inRg k ps.length) (.need (k<ps.length) (.need ((ETy.get .str ps k).length≤1048576∧aS (ETy.get .str ps k) bB=false∧aS (ETy.get .str ps k) cv=false∧¬(df (ETy.get .str ps k)=true∧bC (bO (ETy.get .str ps k)))) (.ite true (.ret (.tup [.p (.v (Value.slice none 0 0)),.i 1]) []) (.need (room (List.length (out++[{ kind:=(0:Int),name:=[],expr:=[] }])) 48) (.stop zUi1 { n:=63,fr:=[(2,.p (.v (Value.slice none 0 0))),(3,.i 0),(4,.x (.c (.own 0))),(7,.x (.c (.own 1))),(8,.i (IntKind.wrap .i64 ((k:Int)+1)))],ck:=[.own 9 .str ps,.own 90 .deed (out++[{ kind:=(0:Int),name:=[],expr:=[] }])] })))))) (.ret (.tup [.c (.own 0),.i 0]) [.own 90 .deed out])) ?_
          rw [hlt]
          generalize ETy.get .str ps k=p at *
          refine ⟨fun _=>⟨by omega,hk',⟨by omega,c2,c3,c1⟩,fun _=>hno ?_,fun x=>Bool.noConfusion x⟩,fun x=>Bool.noConfusion x⟩
          exact mm c2 c3 (fun ⟨g1,g2,g3⟩=>c1 (⟨g1,g2⟩))
      · refine jg JZ Tryz.func95 (let x1:Deed:={ kind:=(3:Int),name:=bf (ETy.get .str ps k) cv,expr:=[] }; .ite (decide ((k:Int)<(ps.length:Int))) (.need (inRg k ps.length) (.need (k<ps.length) (.need (aS (ETy.get .str ps k) bB=false∧aS (ETy.get .str ps k) cv=true) (.ite (!bW x1) (.ret (.tup [.p (.v (Value.slice none 0 0)),.i 1]) []) (.need (room (List.length (out++[x1])) 48) (.stop zUi1 { n:=63,fr:=[(2,.p (.v (Value.slice none 0 0))),(3,.i 0),(4,.x (.c (.own 0))),(7,.x (.c (.own 1))),(8,.i (IntKind.wrap .i64 ((k:Int)+1)))],ck:=[.own 9 .str ps,.own 90 .deed (out++[x1])] })))))) (.ret (.tup [.c (.own 0),.i 0]) [.own 90 .deed out])) ?_
        conv=>zeta
        rw [hlt,hw]
        generalize ETy.get .str ps k=p at *
        refine ⟨fun _=>⟨by omega,hk',⟨c2,c3⟩,fun hb=>hno ?_,fun hb=>⟨hroom _,next _ ?_⟩⟩,fun x=>Bool.noConfusion x⟩
        · have hb':=nt hb
          simp only [fS,c2,c3,hb',bR,if_false,if_true]
        · have hb':=nf hb
          simp only [fS,c2,c3,hb',bR,if_false,if_true]
    · refine jg yG Tryz.func95 (let x1:Deed:={ kind:=(2:Int),name:=bf (ETy.get .str ps k) bB,expr:=[] }; .ite (decide ((k:Int)<(ps.length:Int))) (.need (inRg k ps.length) (.need (k<ps.length) (.need (aS (ETy.get .str ps k) bB=true) (.ite (!bW x1) (.ret (.tup [.p (.v (Value.slice none 0 0)),.i 1]) []) (.need (room (List.length (out++[x1])) 48) (.stop zUi1 { n:=63,fr:=[(2,.p (.v (Value.slice none 0 0))),(3,.i 0),(4,.x (.c (.own 0))),(7,.x (.c (.own 1))),(8,.i (IntKind.wrap .i64 ((k:Int)+1)))],ck:=[.own 9 .str ps,.own 90 .deed (out++[x1])] })))))) (.ret (.tup [.c (.own 0),.i 0]) [.own 90 .deed out])) ?_
      conv=>zeta
      rw [hlt,hw]
      generalize ETy.get .str ps k=p at *
      refine ⟨fun _=>⟨by omega,hk',c2,fun hb=>hno ?_,fun hb=>⟨hroom _,next _ ?_⟩⟩,fun x=>Bool.noConfusion x⟩
      · have hb':=nt hb
        simp only [fS,c2,hb',bR,if_false,if_true]
      · have hb':=nf hb
        simp only [fS,c2,hb',bR,if_false,if_true]
  · refine jg yG Tryz.func95 (let x1:Deed:={ kind:=(2:Int),name:=bf (ETy.get .str ps k) bB,expr:=[] }; .ite (decide ((k:Int)<(ps.length:Int))) (.need (inRg k ps.length) (.need (k<ps.length) (.need (aS (ETy.get .str ps k) bB=true) (.ite (!bW x1) (.ret (.tup [.p (.v (Value.slice none 0 0)),.i 1]) []) (.need (room (List.length (out++[x1])) 48) (.stop zUi1 { n:=63,fr:=[(2,.p (.v (Value.slice none 0 0))),(3,.i 0),(4,.x (.c (.own 0))),(7,.x (.c (.own 1))),(8,.i (IntKind.wrap .i64 ((k:Int)+1)))],ck:=[.own 9 .str ps,.own 90 .deed (out++[x1])] })))))) (.ret (.tup [.c (.own 0),.i 0]) [.own 90 .deed out])) ?_
    conv=>zeta
    rw [show decide ((k:Int)<(ps.length:Int))=false from decide_eq_false (by omega)]
    refine ⟨fun x=>Bool.noConfusion x,fun _=>?_⟩
    rw [dy (l:=ps) (by omega)] at hall
    exact BS hv (by rw [hall]; simp [readAll])
abbrev zUi2:List PI:=[.code [1,1,1,1,0,1,0,0],.inLoop [1,1,1,1,0,1,0,0],.inBlock 0,.code [1,1,1,1,1]]
theorem Lk (hs:¬ab s>6000) {i j:Nat} (hj:s.length<j):zJ95Ui Γ (BQ s) zUi2 ({ n:=63,fr:=[(0,.p (.str s)),(2,.p (.v (Value.slice none 0 0))),(3,.i 0),(4,.x (.c (.own 0))),(5,.i i),(6,.i j)],ck:=[.own 9 .str (ba [] s)] }):=by
 have hL:ab s=(s.length:Int):=rfl
 have key:∀ ps,ps=ba [] s→zJ95Ui Γ (BQ s) zUi2 ({ n:=63,fr:=[(0,.p (.str s)),(2,.p (.v (Value.slice none 0 0))),(3,.i 0),(4,.x (.c (.own 0))),(5,.i i),(6,.i j)],ck:=[.own 9 .str ps] }):=by
  intro ps hps
  refine jg aV Tryz.func95 (let x1:List PI:=zUi2; let x2:=(Value.slice none 0 0); let x3:=(IntKind.wrap .i64 ((j:Int)+1)); let x4:=(ps++[(aw s (some (i:Int)) (some (j:Int))).2]); .ite (decide ((j:Int)≤ab s)) (.need (((j:Int)==ab s)=false→(0:Int)≤(j:Int)∧(j:Int)<ab s) (.ite ((j:Int)==ab s||(↑((List.getD s j (0:UInt8)).toNat):Int)==59) (.need ((0:Int)≤(i:Int)∧(i:Int)≤(j:Int)∧(j:Int)≤(s.length:Int)) (.need (room (x4.length) 16) (.stop x1 { n:=63,fr:=[(0,.p (.str s)),(2,.p (.v x2)),(3,.i 0),(4,.x (.c (.own 0))),(5,.i x3),(6,.i x3)],ck:=[.own 9 .str x4] }))) (.stop x1 { n:=63,fr:=[(0,.p (.str s)),(2,.p (.v x2)),(3,.i 0),(4,.x (.c (.own 0))),(5,.i i),(6,.i x3)],ck:=[.own 9 .str ps] }))) (.ite (decide ((ps.length:Int)>8)) (.ret (.tup [.p (.v x2),.i 4]) []) (.stop zUi1 { n:=63,fr:=[(2,.p (.v x2)),(3,.i 0),(4,.x (.c (.own 0))),(7,.p (.v x2)),(8,.i 0)],ck:=[.own 9 .str ps] }))) ?_
  conv=>zeta
  refine ⟨fun h=>by have:=of_decide_eq_true h; omega,fun _=>⟨fun h8=>qe (.inr (by have:=of_decide_eq_true h8; rw [hps] at this; omega)),fun h8=>?_⟩⟩
  subst hps
  refine J.nilOwn 7 90 .deed rfl (by kernel_rfl) ?_
  exact Lq s Γ hs (by have:=of_decide_eq_false h8; omega) (ba [] s).length 0 [] (by omega) (by omega) rfl (by simp)
 exact key _ rfl
theorem uf {s:Str} {i j:Nat} (hi:i≤j) (hj:j<s.length):(s.take (j+1)).drop i=(s.take j).drop i++[s.getD j 0]:=by
 rw [List.take_add_one,List.getElem?_eq_getElem hj,List.drop_append_of_le_length (by rw [bo]; omega)]
 simp [List.getD_eq_getElem?_getD,hj]
theorem Mz (hs:¬ab s>6000):∀ (n i j:Nat) (ps:List Str),s.length - j≤n→i≤j→j≤s.length→ps.length≤j→ps++ba ((s.take j).drop i) (s.drop j)=ba [] s →
 zJ95Ui Γ (BQ s) zUi2 ({ n:=63,fr:=[(0,.p (.str s)),(2,.p (.v (Value.slice none 0 0))),(3,.i 0),(4,.x (.c (.own 0))),(5,.i i),(6,.i j)],ck:=[.own 9 .str ps] }):=by
 have hL:ab s=(s.length:Int):=rfl
 have hcut:∀ i j:Nat,(aw s (some (i:Int)) (some (j:Int))).2=(s.take j).drop i:=fun i j=>by simp [aw]
 intro n
 induction n with
 | zero=>?_
 | succ n ih=>?_
 all_goals
  intro i j ps hn hi hj hps hall
  refine jg aV Tryz.func95 (let x1:List PI:=zUi2; let x2:=(Value.slice none 0 0); let x3:=(IntKind.wrap .i64 ((j:Int)+1)); let x4:=(ps++[(aw s (some (i:Int)) (some (j:Int))).2]); .ite (decide ((j:Int)≤ab s)) (.need (((j:Int)==ab s)=false→(0:Int)≤(j:Int)∧(j:Int)<ab s) (.ite ((j:Int)==ab s||(↑((List.getD s j (0:UInt8)).toNat):Int)==59) (.need ((0:Int)≤(i:Int)∧(i:Int)≤(j:Int)∧(j:Int)≤(s.length:Int)) (.need (room (x4.length) 16) (.stop x1 { n:=63,fr:=[(0,.p (.str s)),(2,.p (.v x2)),(3,.i 0),(4,.x (.c (.own 0))),(5,.i x3),(6,.i x3)],ck:=[.own 9 .str x4] }))) (.stop x1 { n:=63,fr:=[(0,.p (.str s)),(2,.p (.v x2)),(3,.i 0),(4,.x (.c (.own 0))),(5,.i i),(6,.i x3)],ck:=[.own 9 .str ps] }))) (.ite (decide ((ps.length:Int)>8)) (.ret (.tup [.p (.v x2),.i 4]) []) (.stop zUi1 { n:=63,fr:=[(2,.p (.v x2)),(3,.i 0),(4,.x (.c (.own 0))),(7,.p (.v x2)),(8,.i 0)],ck:=[.own 9 .str ps] }))) ?_
  conv=>zeta
  refine ⟨fun _=>⟨fun hne=>?_,fun hc=>?_,fun hc=>?_⟩,fun h=>by have:=of_decide_eq_false h; omega⟩
  · have:(j:Int)≠ab s:=by simpa using hne
    omega
  · rw [cU (by omega),hcut]
    refine ⟨by omega,by rw [aj]; unfold room maxLen; simp only [ai,al]; omega,?_⟩
    by_cases he:j=s.length
    · have hd:s.drop j=[]:=by rw [he]; simp
      rw [hd,ba] at hall
      rw [hall]
      exact Lk s Γ hs (by omega)
    · have hj':j<s.length:=by omega
      have h59:(s.getD j 0==59)=true:=by
       rw [show ((j:Int)==ab s)=false by rw [beq_eq_false_iff_ne]; omega,cl] at hc
       have h1:=eq_of_beq hc
       rw [beq_iff_eq]; apply cy.1
       show (s.getD j 0).toNat=59
       omega
      have hd:s.drop j=s.getD j 0::s.drop (j+1):=by
       rw [ch hj']; simp [List.getD_eq_getElem?_getD,hj']
      rw [hd,ba,h59,cond_true] at hall
      first
      | (exfalso; omega)
      | exact ih (j+1) (j+1) _ (by omega) (by omega) (by omega) (by simp; omega) (by
         rw [← hall]
         have:(s.take (j+1)).drop (j+1)=[]:=by rw [cG,bo]; omega
         rw [this]; simp)
  · rw [cU (by omega)]
    simp only [aq] at hc
    have hj':j<s.length:=by
     have:(j:Int)≠ab s:=by simpa using hc.1
     omega
    have h59:(s.getD j 0==59)=false:=by
     have h1:((((s.getD j 0).toNat:Nat):Int))≠59:=by simpa using hc.2
     rw [beq_eq_false_iff_ne]; intro e; rw [e] at h1; exact h1 rfl
    have hd:s.drop j=s.getD j 0::s.drop (j+1):=by
     rw [ch hj']; simp [List.getD_eq_getElem?_getD,hj']
    rw [hd,ba,h59,cond_false,← uf hi hj'] at hall
    first
    | (exfalso; omega)
    | exact ih i (j+1) ps (by omega) (by omega) (by omega) (by omega) hall
theorem vt:zJ95Ui Γ (BQ s) [.code []] (bX Tryz.f95.ntmps [.s s] []):=by
 refine jg aV Tryz.func95 (.ite (decide (ab s>(6000:Int))) (.ret (.tup [.p (.v (Value.slice none 0 0)),.i 4]) []) (.stop zUi2 { n:=63,fr:=[(0,.p (.str s)),(2,.p (.v (Value.slice none 0 0))),(3,.i 0),(4,.p (.v (Value.slice none 0 0))),(5,.i 0),(6,.i 0)],ck:=[] })) ?_
 refine ⟨fun h=>qe (.inl (of_decide_eq_true h)),fun h=>?_⟩
 have hs:¬ab s>6000:=of_decide_eq_false h
 refine J.nilOwn 4 9 .str rfl (by kernel_rfl) ?_
 exact Mz s Γ hs s.length 0 0 [] (by omega) (by omega) (by omega) (by simp) (by simp)
theorem CQ (h:aK s):ak Tryz.prog 95 [.s s] [] (.tup [.c (.own 0),.i 0]) [.own 90 .deed (aF s).1] :=
 ak.of Tryz.func95 (by kernel_rfl) (by kernel_rfl) fun Γ=>J.mono (fun v ck hq=>hq.1 h) (vt s Γ)
theorem AU (h:¬aK s):ak Tryz.prog 95 [.s s] [] (.tup [.c jc,.i (aF s).2]) [] :=
 ak.of Tryz.func95 (by kernel_rfl) (by kernel_rfl) fun Γ=>J.mono (fun v ck hq=>hq.2 h) (vt s Γ)
noncomputable def qH:Ent:=(95,fun
 | [.c (.pd (.str s))],[]=>some (some (aK s),.tup [.c (.own 0),.c (.pd (.int .i64 0))],[.own 90 .deed (aF s).1])
 | _,_=>none)
theorem rI:EntOk Tryz.prog qH:=entOk fun vs ck=>by
 unfold qH; dsimp only; split
 · rename_i s; exact entS fun hp=>CQ s hp
 · exact entN
noncomputable def qk:Ent:=(95,fun
 | [.c (.pd (.str s))],[]=>some (some (¬aK s),.tup [.c (.pd (.v (.slice none 0 0))),.c (.pd (.int .i64 (aF s).2))],[])
 | _,_=>none)
theorem rX:EntOk Tryz.prog qk:=entOk fun vs ck=>by
 unfold qk; dsimp only; split
 · rename_i s; exact entS fun hp=>AU s hp
 · exact entN
end Go.Proofs.YtpfidgnkokidoaaGreatDoor
namespace Go.Proofs.YtpfidgnkokidoaaGreatDoor
open Go Go.Ev
set_option maxRecDepth 100000
/-! ### signs -/
theorem HJ {α:Type} {p q:α→Bool} {l:List α} (h:l.all p=true) (hpq:∀ x,p x=true→q x=true):l.all q=true :=
 an.2 fun x hx=>hpq x (an.1 h x hx)
/-! ### told, and read -/
end Go.Proofs.YtpfidgnkokidoaaGreatDoor
namespace Go.Proofs.YtpfidgnkokidoaaGreatDoor
open Go Go.Ev
set_option maxRecDepth 100000
abbrev yE:Str:=[99,104,97,114,116]
abbrev iD:Str:=[101,118,101,110,116]
abbrev jd:Str:=[105,110,116]
abbrev jC:Str:=[98,111,111,108]
abbrev gT:Str:=[112,111,105,110,116]
abbrev gu:Str:=[98,97,115,105,99]
abbrev hO:Str:=[98,111,116,104]
abbrev gx:Str:=[102,105,110,97,108]
abbrev jf:Str:=[111,110,101]
abbrev eY:Str:=[115,104,97,108,108,111,119]
abbrev hP:Str:=[100,101,101,112]
abbrev gr:Str:=[101,110,116,114,121]
abbrev iG:Str:=[101,120,105,116]
abbrev wOn:Str:=[111,110]
variable (c:Chart) (d:Int) (w:List Str)
def de (n:Int):Bool:=d==0&&(c.states.length:Int)==0&&(w.length:Int)==n&&aC (ETy.get .str w 0)
def ag (k:Nat):Str:=ETy.get .str w k
def gR:Option Chart:=if de c d w 1=true then some { c with events:=c.events++[ag w 0] } else none
def N6:Var:=⟨ag w 0,1,(aQ (ag w 1)).1,(aQ (ag w 2)).1,⟨1,(aQ (ag w 3)).1,0⟩⟩
def jO:Option Chart :=
 if de c d w 4=true∧(aQ (ag w 1)).2=0∧(aQ (ag w 2)).2=0∧(aQ (ag w 3)).2=0 then some { c with vars:=c.vars++[N6 w] } else none
def iI:Option Chart :=
 if de c d w 2=true∧(ag w 1=ei∨ag w 1=fF) then some { c with vars:=c.vars++[⟨ag w 0,2,0,1,⟨2,if ag w 1=ei then 1 else 0,0⟩⟩] } else none
def cW:Int:=match c.states.getLast? with | some s=>s.depth+1 | none=>0
def aH (kind:Int) (n:Nat) (c:Chart) (d:Int) (w:List Str):Option Chart :=
 if d≤cW c∧w.length=n∧aC (ag w 0)=true∧aC (ag w (n - 1))=true then some { c with states:=c.states++[⟨ag w 0,kind,d,if n=2 then ag w 1 else [],[],[]⟩] } else none
def cB:Bool:=match c.states.getLast? with | some s=>d==s.depth+1 | none=>false
def dash:Str:=[45]
open Classical in
noncomputable def fI:Option Chart:=match c.states.getLast? with
 | some s=>if d=s.depth+1∧w.length=1∧s.entry=[]∧aK (ag w 0) then some { c with states:=c.states.dropLast++[{ s with entry:=(aF (ag w 0)).1 }] } else none
 | none=>none
open Classical in
noncomputable def gz:Option Chart:=match c.states.getLast? with
 | some s=>if d=s.depth+1∧w.length=1∧s.leave=[]∧aK (ag w 0) then some { c with states:=c.states.dropLast++[{ s with leave:=(aF (ag w 0)).1 }] } else none
 | none=>none
open Classical in
noncomputable def onC:Option Chart :=
 if cB c d=true∧w.length=4∧(ag w 0=dash∨cg (ag w 0)=true)∧(ag w 1=dash∨bC (ag w 1))∧(ag w 2=dash∨aC (ag w 2)=true)∧(ag w 3=dash∨aK (ag w 3)) then
  some { c with trans:=c.trans++[⟨(c.states.length:Int) - 1,if ag w 0=dash then [] else ag w 0,if ag w 1=dash then [] else (aO (ag w 1)).1,if ag w 2=dash then [] else ag w 2,if ag w 3=dash then [] else (aF (ag w 3)).1⟩] } else none
end Go.Proofs.YtpfidgnkokidoaaGreatDoor
