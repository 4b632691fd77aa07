/- Contracts: an action read. Conditions: texts that are not too long. Contracts: blocks read. Conditions: none. -/
import Derived.Test.YtpfidgnkokidoaaGreatDoorMr
import Derived.Test.YtpfidgnkokidoaaGreatDoorMf
import Derived.Test.YtpfidgnkokidoaaGreatDoorUq
namespace Go.Proofs.YtpfidgnkokidoaaGreatDoor
open Go Go.Ev
set_option maxRecDepth 100000
/-! ### the program's -/
noncomputable def IN:Cfg:=⟨bx,[rH,jO,uV,sd,hO,mo]⟩
theorem IQ:ai Tryz.prog IN.tab:=(ai.cons oh (ai.cons jr (ai.cons B5 (ai.cons ti (ai.cons fK (ai.cons oT ai.nil))))))
noncomputable def tP:Cfg:=⟨bx,[rH,jO,uV,r6,hO,mo]⟩
theorem qd:ai Tryz.prog tP.tab:=(ai.cons oh (ai.cons jr (ai.cons B5 (ai.cons td (ai.cons fK (ai.cons oT ai.nil))))))
abbrev qB:SC:=.pd (.v (.slice none 0 0))
variable (s:Str)
theorem JM (h:bo s b7=true):ak Tryz.prog 122 [.s s] [] (.tup [.agg [.i 2,.pd (.str (bC s b7)),qB],.b (cB ⟨2,bC s b7,[]⟩)]) []:=by
 refine dg qd Tryz.func122 (let x1:=[(114:UInt8),97,105,115,101,58]; let x2:=[(115:UInt8),101,110,100,58]; let x3:=(Value.slice none 0 0); .ite (bo s x1) (.ret (.tup [.agg [.i 2,.pd (.str (bC s x1)),.pd (.v x3)],.p (.bool (cA (bC s x1)))]) []) (.ite (bo s x2) (.ret (.tup [.agg [.i 3,.pd (.str (bC s x2)),.pd (.v x3)],.p (.bool (cA (bC s x2)))]) []) (.need (s.length<4294967281) (.need (¬cz (b8 s)) (.ret (.tup [.agg [.i 1,.pd (.str (dr s)),.pd (.v x3)],.p (.bool (eJ s&&aP (dr s)&&((aS (b8 s)).2).2==(0:Int)&&jl []))]) []))))) fun Γ=>?_
 conv=>zeta
 have hb:cB ⟨2,bC s b7,[]⟩=cA (bC s b7):=by show (cA _&&true)=_; rw [c8]
 rw [hb]
 exact ⟨fun _=>⟨rfl,rfl⟩,fun h'=>absurd h (by rw [show bo s b7=false from h']; simp)⟩
theorem ND (h0:bo s b7=false) (h:bo s c7=true):ak Tryz.prog 122 [.s s] [] (.tup [.agg [.i 3,.pd (.str (bC s c7)),qB],.b (cB ⟨3,bC s c7,[]⟩)]) []:=by
 refine dg qd Tryz.func122 (let x1:=[(114:UInt8),97,105,115,101,58]; let x2:=[(115:UInt8),101,110,100,58]; let x3:=(Value.slice none 0 0); .ite (bo s x1) (.ret (.tup [.agg [.i 2,.pd (.str (bC s x1)),.pd (.v x3)],.p (.bool (cA (bC s x1)))]) []) (.ite (bo s x2) (.ret (.tup [.agg [.i 3,.pd (.str (bC s x2)),.pd (.v x3)],.p (.bool (cA (bC s x2)))]) []) (.need (s.length<4294967281) (.need (¬cz (b8 s)) (.ret (.tup [.agg [.i 1,.pd (.str (dr s)),.pd (.v x3)],.p (.bool (eJ s&&aP (dr s)&&((aS (b8 s)).2).2==(0:Int)&&jl []))]) []))))) fun Γ=>?_
 conv=>zeta
 have hb:cB ⟨3,bC s c7,[]⟩=cA (bC s c7):=by show (cA _&&true)=_; rw [c8]
 rw [hb]
 exact ⟨fun h'=>absurd (show bo s b7=true from h') (by rw [h0]; simp),fun _=>⟨fun _=>⟨rfl,rfl⟩,fun h'=>absurd h (by rw [show bo s c7=false from h']; simp)⟩⟩
theorem Oj (hs:s.length<4294967281) (h0:bo s b7=false) (h1:bo s c7=false) (h:cz (b8 s)) :
 ak Tryz.prog 122 [.s s] [] (.tup [.agg [.i 1,.pd (.str (dr s)),.own 0],.b (eJ s&&cB ⟨1,dr s,(aS (b8 s)).1⟩)]) [.own 92 .cell (aS (b8 s)).1]:=by
 refine dg IQ Tryz.func122 (let x1:=[(114:UInt8),97,105,115,101,58]; let x2:=[(115:UInt8),101,110,100,58]; .ite (bo s x1) (.ret (.tup [.agg [.i 2,.pd (.str (bC s x1)),.pd (.v (Value.slice none 0 0))],.p (.bool (cA (bC s x1)))]) []) (.ite (bo s x2) (.ret (.tup [.agg [.i 3,.pd (.str (bC s x2)),.pd (.v (Value.slice none 0 0))],.p (.bool (cA (bC s x2)))]) []) (.need (s.length<4294967281) (.need (cz (b8 s)) (.ret (.tup [.agg [.i 1,.pd (.str (dr s)),.own 0],.p (.bool (eJ s&&aP (dr s)&&(0:Int)==0&&jl ((aS (b8 s)).1)))]) [.own 92 .cell ((aS (b8 s)).1)]))))) fun Γ=>?_
 conv=>zeta
 refine ⟨fun h'=>absurd (show bo s b7=true from h') (by rw [h0]; simp),fun _=>⟨fun h'=>absurd (show bo s c7=true from h') (by rw [h1]; simp),fun _=>⟨hs,h,?_,rfl⟩⟩⟩
 have hb:(eJ s&&cB ⟨1,dr s,(aS (b8 s)).1⟩)=(eJ s&&aP (dr s)&&(0:Int)==0&&jl (aS (b8 s)).1):=by
  show (eJ s&&(aP (dr s)&&jl (aS (b8 s)).1))=_
  rw [show ((0:Int)==0)=true from rfl,c8,dj]
 rw [hb]
theorem Nd (hs:s.length<4294967281) (h0:bo s b7=false) (h1:bo s c7=false) (h:¬cz (b8 s)) :
 ak Tryz.prog 122 [.s s] [] (.tup [.agg [.i 1,.pd (.str (dr s)),qB],.b false]) []:=by
 refine dg qd Tryz.func122 (let x1:=[(114:UInt8),97,105,115,101,58]; let x2:=[(115:UInt8),101,110,100,58]; let x3:=(Value.slice none 0 0); .ite (bo s x1) (.ret (.tup [.agg [.i 2,.pd (.str (bC s x1)),.pd (.v x3)],.p (.bool (cA (bC s x1)))]) []) (.ite (bo s x2) (.ret (.tup [.agg [.i 3,.pd (.str (bC s x2)),.pd (.v x3)],.p (.bool (cA (bC s x2)))]) []) (.need (s.length<4294967281) (.need (¬cz (b8 s)) (.ret (.tup [.agg [.i 1,.pd (.str (dr s)),.pd (.v x3)],.p (.bool (eJ s&&aP (dr s)&&((aS (b8 s)).2).2==(0:Int)&&jl []))]) []))))) fun Γ=>?_
 conv=>zeta
 refine ⟨fun h'=>absurd (show bo s b7=true from h') (by rw [h0]; simp),fun _=>⟨fun h'=>absurd (show bo s c7=true from h') (by rw [h1]; simp),fun _=>⟨hs,h,?_,rfl⟩⟩⟩
 have h9:¬(aS (b8 s)).2.2=0:=h
 have:((aS (b8 s)).2.2==0)=false:=by simpa using h9
 rw [this,bB,cl]
noncomputable def FF:Ent:=(122,fun
 | [.c (.pd (.str s))],[]=>some (some (bo s b7=true),.tup [.agg [.pd (.int .i64 2),.pd (.str (bC s b7)),.pd (.v (.slice none 0 0))],.c (.pd (.bool (cB ⟨2,bC s b7,[]⟩)))],[])
 | _,_=>none)
theorem My:EntOk Tryz.prog FF:=entOk fun vs ck=>by
 unfold FF; dsimp only; split
 · rename_i s; exact entS fun hp=>JM s hp
 · exact entN
noncomputable def Fe:Ent:=(122,fun
 | [.c (.pd (.str s))],[]=>some (some (bo s b7=false∧bo s c7=true),.tup [.agg [.pd (.int .i64 3),.pd (.str (bC s c7)),.pd (.v (.slice none 0 0))],.c (.pd (.bool (cB ⟨3,bC s c7,[]⟩)))],[])
 | _,_=>none)
theorem MM:EntOk Tryz.prog Fe:=entOk fun vs ck=>by
 unfold Fe; dsimp only; split
 · rename_i s; exact entS fun hp=>ND s hp.1 hp.2
 · exact entN
noncomputable def DS:Ent:=(122,fun
 | [.c (.pd (.str s))],[]=>some (some (s.length<4294967281∧bo s b7=false∧bo s c7=false∧cz (b8 s)),.tup [.agg [.pd (.int .i64 1),.pd (.str (dr s)),.own 0],.c (.pd (.bool (eJ s&&cB ⟨1,dr s,(aS (b8 s)).1⟩)))],[.own 92 .cell (aS (b8 s)).1])
 | _,_=>none)
theorem M1:EntOk Tryz.prog DS:=entOk fun vs ck=>by
 unfold DS; dsimp only; split
 · rename_i s; exact entS fun hp=>Oj s hp.1 hp.2.1 hp.2.2.1 hp.2.2.2
 · exact entN
noncomputable def DX:Ent:=(122,fun
 | [.c (.pd (.str s))],[]=>some (some (s.length<4294967281∧bo s b7=false∧bo s c7=false∧¬cz (b8 s)),.tup [.agg [.pd (.int .i64 1),.pd (.str (dr s)),.pd (.v (.slice none 0 0))],.c (.pd (.bool false))],[])
 | _,_=>none)
theorem MW:EntOk Tryz.prog DX:=entOk fun vs ck=>by
 unfold DX; dsimp only; split
 · rename_i s; exact entS fun hp=>Nd s hp.1 hp.2.1 hp.2.2.1 hp.2.2.2
 · exact entN
/-! ### the document's -/
theorem Pd {s:Str} {k:Nat} (hk:k<s.length) (hb:∀ c∈s.take k,(c==61)=false) (h:(s.getD k 0==61)=true):eJ s=true∧dr s=s.take k∧b8 s=s.drop (k+1):=by
 have h1:s.getD k 0=s[k]:=by simp [List.getD_eq_getElem?_getD,hk]
 rw [h1] at h
 have hd:s.drop k=61::s.drop (k+1):=by rw [cX hk,eq_of_beq h]
 have hs:s=s.take k++61::s.drop (k+1):=by rw [← hd,dG]
 have ha:∀ x∈s.take k,(!(x==(61:UInt8)))=true:=fun x hx=>by rw [hb x hx]; rfl
 refine ⟨?_,?_,?_⟩
 · unfold eJ; rw [df]; exact ⟨s[k],eB hk,h⟩
 · unfold dr
   conv=>lhs; rw [hs]
   rw [eg ha]; simp
 · unfold b8
   conv=>lhs; rw [hs]
   rw [ei ha]; simp
end Go.Proofs.YtpfidgnkokidoaaGreatDoor
namespace Go.Proofs.YtpfidgnkokidoaaGreatDoor
open Go Go.Ev
set_option maxRecDepth 100000
variable (s:Str) (Γ:Ctx)
open Classical in
noncomputable def ft:Option Deed :=
 if bo s b7=true then (if cB ⟨2,bC s b7,[]⟩=true then some ⟨2,bC s b7,[]⟩ else none)
 else if bo s c7=true then (if cB ⟨3,bC s c7,[]⟩=true then some ⟨3,bC s c7,[]⟩ else none)
 else if eJ s=true∧cz (b8 s)∧cB ⟨1,dr s,(aS (b8 s)).1⟩=true then some ⟨1,dr s,(aS (b8 s)).1⟩ else none
noncomputable def readAll:List Str→Option (List Deed)
 | []=>some []
 | p::r=>match ft p,readAll r with
   | some d,some l=>some (d::l)
   | _,_=>none
noncomputable def aM:List Deed×Int :=
 if af s>6000 then ([],4) else if (bf [] s).length>8 then ([],4) else match readAll (bf [] s) with
  | some l=>(l,0)
  | none=>([],1)
def aZ:Prop:=(aM s).2=0
theorem xl {s:Str} (c2:bo s b7=false) (c3:bo s c7=false) (h:¬(eJ s=true∧cz (b8 s)∧cB ⟨1,dr s,(aS (b8 s)).1⟩=true)):ft s=none:=by
 rw [ft,if_neg (by rw [c2]; simp),if_neg (by rw [c3]; simp),if_neg h]
theorem xD {s:Str} (c2:bo s b7=false) (c3:bo s c7=false) (h1:eJ s=true) (h2:cz (b8 s)) (h3:cB ⟨1,dr s,(aS (b8 s)).1⟩=true):ft s=some ⟨1,dr s,(aS (b8 s)).1⟩:=by
 rw [ft,if_neg (by rw [c2]; simp),if_neg (by rw [c3]; simp),if_pos ⟨h1,h2,h3⟩]
def BQ:Out:=fun v ck=>(aZ s→v = .tup [.c (.own 0),.i 0]∧ck=[.own 90 .deed (aM s).1])∧(¬aZ s→v = .tup [.c qB,.i (aM s).2]∧ck=[])
theorem mc {s:Str} (h1:¬af s>6000) (h2:¬(bf [] s).length>8):aM s=match readAll (bf [] s) with | some l=>(l,0) | none=>([],1):=by
 rw [aM,if_neg h1,if_neg h2]
theorem IE {s:Str} (h1:¬af s>6000) (h2:¬(bf [] s).length>8):aZ s↔(readAll (bf [] s)).isSome=true:=by
 unfold aZ
 rw [mc h1 h2]
 cases readAll (bf [] s) <;> simp
theorem Ms {s:Str} {ps:List Str} {l:List Deed} (hv:aM s=match readAll ps with | some l=>(l,0) | none=>([],1)) (h:readAll ps=some l):BQ s (.tup [.c (.own 0),.i 0]) [.own 90 .deed l]:=by
 rw [h] at hv
 refine ⟨fun _=>⟨rfl,by rw [hv]⟩,fun hn=>absurd ?_ hn⟩
 show (aM s).2=0; rw [hv]
theorem Nk {s:Str} {ps:List Str} (hv:aM s=match readAll ps with | some l=>(l,0) | none=>([],1)) (h:readAll ps=none):BQ s (.tup [.c qB,.i 1]) []:=by
 rw [h] at hv
 refine ⟨fun hn=>?_,fun _=>⟨by rw [hv],rfl⟩⟩
 have:(aM s).2=0:=hn
 rw [hv] at this; exact absurd this (by decide)
theorem Dh {s:Str} (h:af s>6000∨(bf [] s).length>8):BQ s (.tup [.c qB,.i 4]) []:=by
 have hv:aM s=([],4):=by
  unfold aM
  by_cases h1:af s>6000
  · rw [if_pos h1]
  · rw [if_neg h1,if_pos (h.resolve_left h1)]
 refine ⟨fun hn=>?_,fun _=>⟨by rw [hv],rfl⟩⟩
 have:(aM s).2=0:=hn
 rw [hv] at this; exact absurd this (by decide)
theorem rI:∀ (s cur:Str),∀ p∈bf cur s,p.length≤cur.length+s.length
 | [],cur,p,h=>by simp [bf] at h; subst h; simp
 | c :: r,cur,p,h=>by
   rw [bf] at h
   cases hc:c==59
   · rw [hc,cond_false] at h
     have:=rI r (cur++[c]) p h
     simp only [ag,ah,aj] at this ⊢; omega
   · rw [hc,cond_true] at h
     rcases aO.1 h with rfl | h
     · simp
     · have:=rI r [] p h
       simp only [aj,ah] at this ⊢; omega
/-! ### the program's -/
def LJ:Cfg:=⟨bx,[vJ]⟩
theorem Le:ai Tryz.prog LJ.tab:=(ai.cons G7 ai.nil)
noncomputable def E5:Cfg:=⟨bx,[FF]⟩
theorem Bi:ai Tryz.prog E5.tab:=(ai.cons My ai.nil)
noncomputable def Ly:Cfg:=⟨bx,[Fe]⟩
theorem Jq:ai Tryz.prog Ly.tab:=(ai.cons MM ai.nil)
noncomputable def LF:Cfg:=⟨bx,[DS]⟩
theorem K6:ai Tryz.prog LF.tab:=(ai.cons M1 ai.nil)
noncomputable def Ln:Cfg:=⟨bx,[DX]⟩
theorem Jb:ai Tryz.prog Ln.tab:=(ai.cons MW ai.nil)
abbrev zUh1:List PI:=[.code [1,1,1,1,1,0,1,0,0],.inLoop [1,1,1,1,1,0,1,0,0],.inBlock 0,.code [1,1,1,1,1,1]]
theorem NZ (hs:¬af s>6000) (h8:(bf [] s).length≤8):∀ (n k:Nat) (out:List Deed),(bf [] s).length - k≤n→k≤(bf [] s).length→out.length=k→readAll (bf [] s)=(readAll ((bf [] s).drop k)).map (out++·) →
 J Tryz.prog 87 (aI Tryz.f87) Γ (BQ s) zUh1 ({ n:=37,fr:=[(2,.p (.v (Value.slice none 0 0))),(3,.i 0),(5,.x (.c (.own 1))),(18,.x (.c (.own 0))),(19,.i (((bf [] s).length:Int))),(20,.i k)],ck:=[.own 9 .str (bf [] s),.own 90 .deed out] }):=by
 have hpl:∀ p∈bf [] s,p.length≤6000:=fun p hp=>by
  have:=rI s [] p hp
  have hL:af s=(s.length:Int):=rfl
  simp only [aj] at this; omega
 have hq:aZ s↔(readAll (bf [] s)).isSome=true:=IE hs (by omega)
 have hv:=mc hs (show ¬(bf [] s).length>8 by omega)
 generalize bf [] s=ps at *
 intro n
 induction n with
 | zero=>?_
 | succ n ih=>?_
 all_goals
  intro k out hn hk ho hall
  by_cases hk':k<ps.length
  · have hget:=ETy.getElem?_get (t:=.str) hk'
    have hp1:=hpl _ (List.mem_of_getElem? hget)
    have hdk:readAll (ps.drop k)=(match ft (ETy.get .str ps k),readAll (ps.drop (k+1)) with | some d,some l=>some (d::l) | _,_=>none):=by rw [bZ (t:=.str) hk']; rfl
    have hno:ft (ETy.get .str ps k)=none→BQ s (.tup [.c qB,.i 1]) []:=fun hx=>by
     have h1:readAll ps=none:=by rw [hall,hdk,hx]; rfl
     exact Nk hv h1
    have hroom:∀ d:Deed,room (out++[d]).length 48:=fun d=>by rw [ag]; unfold room maxLen; simp only [ah,aj]; omega
    have next:∀ d,ft (ETy.get .str ps k)=some d→J Tryz.prog 87 (aI Tryz.f87) Γ (BQ s) zUh1 ({ n:=37,fr:=[(2,.p (.v (Value.slice none 0 0))),(3,.i 0),(5,.x (.c (.own 1))),(18,.x (.c (.own 0))),(19,.i ((ps.length:Int))),(20,.i (((k+1:Nat):Int)))],ck:=[.own 9 .str ps,.own 90 .deed (out++[d])] }):=fun d hd=>by
     first
     | (exfalso; omega)
     | exact ih (k+1) (out++[d]) (by omega) (by omega) (by simp; omega) (by
        rw [hall,hdk,hd]
        cases readAll (ps.drop (k+1)) <;> simp)
    have hw:IntKind.wrap .i64 ((k:Int)+1)=((k+1:Nat):Int):=ee (by omega)
    have hlt:decide ((k:Int)<(ps.length:Int))=true:=decide_eq_true (by omega)
    cases c2:bo (ETy.get .str ps k) b7
    · cases c3:bo (ETy.get .str ps k) c7
      · by_cases c1:cz (b8 (ETy.get .str ps k))
        · refine jg K6 Tryz.func87 (let x1:Deed:={ kind:=(1:Int),name:=dr (ETy.get .str ps k),expr:=(aS (b8 (ETy.get .str ps k))).1 }; .ite (decide ((k:Int)<(ps.length:Int))) (.need (inRg k ps.length) (.need (k<ps.length) (.need ((ETy.get .str ps k).length<4294967281∧bo (ETy.get .str ps k) b7=false∧bo (ETy.get .str ps k) c7=false∧cz (b8 (ETy.get .str ps k))) (.ite (!(eJ (ETy.get .str ps k)&&cB x1)) (.ret (.tup [.p (.v (Value.slice none 0 0)),.i 1]) []) (.need (room (List.length (out++[x1])) 48) (.stop zUh1 { n:=37,fr:=[(2,.p (.v (Value.slice none 0 0))),(3,.i 0),(5,.x (.c (.own 1))),(18,.x (.c (.own 0))),(19,.i ps.length),(20,.i (IntKind.wrap .i64 ((k:Int)+1)))],ck:=[.own 9 .str ps,.own 90 .deed (out++[x1])] })))))) (.ret (.tup [.c (.own 0),.i 0]) [.own 90 .deed out])) ?_
          conv=>zeta
          rw [hlt,hw]
          generalize ETy.get .str ps k=p at *
          refine ⟨fun _=>⟨by omega,hk',⟨by omega,c2,c3,c1⟩,fun hb=>hno ?_,fun hb=>⟨hroom _,next _ ?_⟩⟩,fun x=>Bool.noConfusion x⟩
          · exact xl c2 c3 (fun ⟨g1,g2,g3⟩=>by
             have hb':=nt hb
             rw [g1,g3] at hb'; cases hb')
          · have hb':=nf hb
            rw [ab] at hb'
            exact xD c2 c3 hb'.1 c1 hb'.2
        · refine jg Jb Tryz.func87 (.ite (decide ((k:Int)<(ps.length:Int))) (.need (inRg k ps.length) (.need (k<ps.length) (.need ((ETy.get .str ps k).length<4294967281∧bo (ETy.get .str ps k) b7=false∧bo (ETy.get .str ps k) c7=false∧¬cz (b8 (ETy.get .str ps k))) (.ite true (.ret (.tup [.p (.v (Value.slice none 0 0)),.i 1]) []) (.need (room (List.length (out++[{ kind:=(1:Int),name:=dr (ETy.get .str ps k),expr:=[] }])) 48) (.stop zUh1 { n:=37,fr:=[(2,.p (.v (Value.slice none 0 0))),(3,.i 0),(5,.x (.c (.own 1))),(18,.x (.c (.own 0))),(19,.i ps.length),(20,.i (IntKind.wrap .i64 ((k:Int)+1)))],ck:=[.own 9 .str ps,.own 90 .deed (out++[{ kind:=(1:Int),name:=dr (ETy.get .str ps k),expr:=[] }])] })))))) (.ret (.tup [.c (.own 0),.i 0]) [.own 90 .deed out])) ?_
          rw [hlt]
          generalize ETy.get .str ps k=p at *
          refine ⟨fun _=>⟨by omega,hk',⟨by omega,c2,c3,c1⟩,fun _=>hno ?_,fun x=>Bool.noConfusion x⟩,fun x=>Bool.noConfusion x⟩
          exact xl c2 c3 (fun ⟨g1,g2,g3⟩=>c1 (g2))
      · refine jg Jq Tryz.func87 (let x1:Deed:={ kind:=(3:Int),name:=bC (ETy.get .str ps k) c7,expr:=[] }; .ite (decide ((k:Int)<(ps.length:Int))) (.need (inRg k ps.length) (.need (k<ps.length) (.need (bo (ETy.get .str ps k) b7=false∧bo (ETy.get .str ps k) c7=true) (.ite (!cB x1) (.ret (.tup [.p (.v (Value.slice none 0 0)),.i 1]) []) (.need (room (List.length (out++[x1])) 48) (.stop zUh1 { n:=37,fr:=[(2,.p (.v (Value.slice none 0 0))),(3,.i 0),(5,.x (.c (.own 1))),(18,.x (.c (.own 0))),(19,.i ps.length),(20,.i (IntKind.wrap .i64 ((k:Int)+1)))],ck:=[.own 9 .str ps,.own 90 .deed (out++[x1])] })))))) (.ret (.tup [.c (.own 0),.i 0]) [.own 90 .deed out])) ?_
        conv=>zeta
        rw [hlt,hw]
        generalize ETy.get .str ps k=p at *
        refine ⟨fun _=>⟨by omega,hk',⟨c2,c3⟩,fun hb=>hno ?_,fun hb=>⟨hroom _,next _ ?_⟩⟩,fun x=>Bool.noConfusion x⟩
        · have hb':=nt hb
          simp only [ft,c2,c3,hb',cC,if_false,if_true]
        · have hb':=nf hb
          simp only [ft,c2,c3,hb',cC,if_false,if_true]
    · refine jg Bi Tryz.func87 (let x1:Deed:={ kind:=(2:Int),name:=bC (ETy.get .str ps k) b7,expr:=[] }; .ite (decide ((k:Int)<(ps.length:Int))) (.need (inRg k ps.length) (.need (k<ps.length) (.need (bo (ETy.get .str ps k) b7=true) (.ite (!cB x1) (.ret (.tup [.p (.v (Value.slice none 0 0)),.i 1]) []) (.need (room (List.length (out++[x1])) 48) (.stop zUh1 { n:=37,fr:=[(2,.p (.v (Value.slice none 0 0))),(3,.i 0),(5,.x (.c (.own 1))),(18,.x (.c (.own 0))),(19,.i ps.length),(20,.i (IntKind.wrap .i64 ((k:Int)+1)))],ck:=[.own 9 .str ps,.own 90 .deed (out++[x1])] })))))) (.ret (.tup [.c (.own 0),.i 0]) [.own 90 .deed out])) ?_
      conv=>zeta
      rw [hlt,hw]
      generalize ETy.get .str ps k=p at *
      refine ⟨fun _=>⟨by omega,hk',c2,fun hb=>hno ?_,fun hb=>⟨hroom _,next _ ?_⟩⟩,fun x=>Bool.noConfusion x⟩
      · have hb':=nt hb
        simp only [ft,c2,hb',cC,if_false,if_true]
      · have hb':=nf hb
        simp only [ft,c2,hb',cC,if_false,if_true]
  · refine jg Bi Tryz.func87 (let x1:Deed:={ kind:=(2:Int),name:=bC (ETy.get .str ps k) b7,expr:=[] }; .ite (decide ((k:Int)<(ps.length:Int))) (.need (inRg k ps.length) (.need (k<ps.length) (.need (bo (ETy.get .str ps k) b7=true) (.ite (!cB x1) (.ret (.tup [.p (.v (Value.slice none 0 0)),.i 1]) []) (.need (room (List.length (out++[x1])) 48) (.stop zUh1 { n:=37,fr:=[(2,.p (.v (Value.slice none 0 0))),(3,.i 0),(5,.x (.c (.own 1))),(18,.x (.c (.own 0))),(19,.i ps.length),(20,.i (IntKind.wrap .i64 ((k:Int)+1)))],ck:=[.own 9 .str ps,.own 90 .deed (out++[x1])] })))))) (.ret (.tup [.c (.own 0),.i 0]) [.own 90 .deed out])) ?_
    conv=>zeta
    rw [show decide ((k:Int)<(ps.length:Int))=false from decide_eq_false (by omega)]
    refine ⟨fun x=>Bool.noConfusion x,fun _=>?_⟩
    rw [cb (l:=ps) (by omega)] at hall
    exact Ms hv (by rw [hall]; simp [readAll])
theorem AK:J Tryz.prog 87 (aI Tryz.f87) Γ (BQ s) [.code []] (cN Tryz.f87.ntmps [.s s] []):=by
 refine jg Le Tryz.func87 (.ite (decide (af s>(6000:Int))) (.ret (.tup [.p (.v (Value.slice none 0 0)),.i 4]) []) (.need (s.length<4294967281) (.ite (decide ((↑((bf [] s).length):Int)>8)) (.ret (.tup [.p (.v (Value.slice none 0 0)),.i 4]) []) (.stop zUh1 { n:=37,fr:=[(2,.p (.v (Value.slice none 0 0))),(3,.i 0),(5,.p (.v (Value.slice none 0 0))),(18,.x (.c (.own 0))),(19,.i (↑((bf [] s).length):Int)),(20,.i 0)],ck:=[.own 9 .str (bf [] s)] })))) ?_
 have hL:af s=(s.length:Int):=rfl
 refine ⟨fun h=>Dh (.inl (of_decide_eq_true h)),fun h=>?_⟩
 have hs:¬af s>6000:=of_decide_eq_false h
 refine ⟨by omega,fun h8=>Dh (.inr (by have:=of_decide_eq_true h8; omega)),fun h8=>?_⟩
 have h8':(bf [] s).length≤8:=by have:=of_decide_eq_false h8; omega
 refine J.nilOwn 5 90 .deed rfl (by kernel_rfl) ?_
 exact NZ s Γ hs h8' (bf [] s).length 0 [] (by omega) (by omega) rfl (by simp)
theorem GE (h:aZ s):ak Tryz.prog 87 [.s s] [] (.tup [.c (.own 0),.i 0]) [.own 90 .deed (aM s).1] :=
 ak.of Tryz.func87 (by kernel_rfl) (by kernel_rfl) fun Γ=>J.mono (fun v ck hq=>hq.1 h) (AK s Γ)
theorem EM (h:¬aZ s):ak Tryz.prog 87 [.s s] [] (.tup [.c qB,.i (aM s).2]) [] :=
 ak.of Tryz.func87 (by kernel_rfl) (by kernel_rfl) fun Γ=>J.mono (fun v ck hq=>hq.2 h) (AK s Γ)
noncomputable def wX:Ent:=(87,fun
 | [.c (.pd (.str s))],[]=>some (some (aZ s),.tup [.c (.own 0),.c (.pd (.int .i64 0))],[.own 90 .deed (aM s).1])
 | _,_=>none)
theorem wm:EntOk Tryz.prog wX:=entOk fun vs ck=>by
 unfold wX; dsimp only; split
 · rename_i s; exact entS fun hp=>GE s hp
 · exact entN
noncomputable def wc:Ent:=(87,fun
 | [.c (.pd (.str s))],[]=>some (some (¬aZ s),.tup [.c (.pd (.v (.slice none 0 0))),.c (.pd (.int .i64 (aM s).2))],[])
 | _,_=>none)
theorem wj:EntOk Tryz.prog wc:=entOk fun vs ck=>by
 unfold wc; dsimp only; split
 · rename_i s; exact entS fun hp=>EM s hp
 · exact entN
end Go.Proofs.YtpfidgnkokidoaaGreatDoor
