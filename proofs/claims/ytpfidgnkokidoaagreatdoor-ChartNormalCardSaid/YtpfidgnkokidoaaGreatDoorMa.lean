/- The library's contracts of strings.Trim, laid at this dump by the kit's tools. Conditions: none. Contracts: strconv.ParseInt, strings.Trim, words.Number. Conditions: texts that are not too long; the errors' variables. Numbers read: the program's, the document's. Conditions: texts of at most 2^48 bytes. Expressions read, as a plain relation: what the program's reader does. Conditions: none. -/
import Derived.Shelf.Lays
import Derived.Shelf.Strings.Trim
import Derived.Shelf.Strings.SlTrimAscii
import Derived.Test.YtpfidgnkokidoaaGreatDoorProg
import Derived.Test.YtpfidgnkokidoaaGreatDoorUp
import Derived.Test.YtpfidgnkokidoaaGreatDoorShelfb
import Derived.Lib.AtoiErrMem
namespace Go.Proofs
open Go.Shelf
def Tryz.lays160_ren:Go.Shelf.Ren:=⟨fun | 160=>115 | 232=>145 | 231=>144 | 227=>146 | 234=>148 | 233=>147 | 236=>150 | 235=>149 | 228=>155 | 271=>156 | 151=>178 | 197=>124 | 120=>186 | 152=>153 | 260=>164 | 137=>184 | 119=>185 | 224=>167 | 225=>166 | 217=>165 | 266=>191 | n=>n,fun | 9=>9 | 4=>4 | 3=>3 | 5=>5 | 117=>191 | 116=>190 | 0=>0 | 124=>194 | 21=>21 | 105=>173 | 46=>145 | 119=>232 | 139=>235 | 138=>234 | n=>n,fun | 3=>1 | 4=>2 | n=>n⟩
theorem Tryz.lays160:Go.Proofs.Lays.n160 Tryz.prog Tryz.lays160_ren:={
 mixed:=by kernel_rfl
 f119:=Tryz.func185.trans (congrArg some (by kernel_rfl))
 f120:=Tryz.func186.trans (congrArg some (by kernel_rfl))
 f137:=Tryz.func184.trans (congrArg some (by kernel_rfl))
 f151:=Tryz.func178.trans (congrArg some (by kernel_rfl))
 f152:=Tryz.func153.trans (congrArg some (by kernel_rfl))
 f160:=Tryz.func115.trans (congrArg some (by kernel_rfl))
 f197:=Tryz.func124.trans (congrArg some (by kernel_rfl))
 f217:=Tryz.func165.trans (congrArg some (by kernel_rfl))
 f224:=Tryz.func167.trans (congrArg some (by kernel_rfl))
 f225:=Tryz.func166.trans (congrArg some (by kernel_rfl))
 f227:=Tryz.func146.trans (congrArg some (by kernel_rfl))
 f228:=Tryz.func155.trans (congrArg some (by kernel_rfl))
 f231:=Tryz.func144.trans (congrArg some (by kernel_rfl))
 f232:=Tryz.func145.trans (congrArg some (by kernel_rfl))
 f233:=Tryz.func147.trans (congrArg some (by kernel_rfl))
 f234:=Tryz.func148.trans (congrArg some (by kernel_rfl))
 f235:=Tryz.func149.trans (congrArg some (by kernel_rfl))
 f236:=Tryz.func150.trans (congrArg some (by kernel_rfl))
 f260:=Tryz.func164.trans (congrArg some (by kernel_rfl))
 f266:=Tryz.func191.trans (congrArg some (by kernel_rfl))
 f271:=Tryz.func156.trans (congrArg some (by kernel_rfl))
 t0:=Tryz.underlying0
 a0:=Tryz.isAgg0
 z0:=Tryz.sizeOf0
 v0:=Tryz.zeroValue0
 t3:=Tryz.underlying3
 a3:=Tryz.isAgg3
 z3:=Tryz.sizeOf3
 v3:=Tryz.zeroValue3
 t4:=Tryz.underlying4
 a4:=Tryz.isAgg4
 z4:=Tryz.sizeOf4
 v4:=Tryz.zeroValue4
 t5:=Tryz.underlying5
 a5:=Tryz.isAgg5
 z5:=Tryz.sizeOf5
 v5:=Tryz.zeroValue5
 t9:=Tryz.underlying9
 a9:=Tryz.isAgg9
 z9:=Tryz.sizeOf9
 v9:=Tryz.zeroValue9
 t21:=Tryz.underlying21
 a21:=Tryz.isAgg21
 z21:=Tryz.sizeOf21
 v21:=Tryz.zeroValue21
 t46:=Tryz.underlying145
 a46:=Tryz.isAgg145
 z46:=Tryz.sizeOf145
 v46:=Tryz.zeroValue145
 t105:=Tryz.underlying173
 a105:=Tryz.isAgg173
 z105:=Tryz.sizeOf173
 v105:=Tryz.zeroValue173
 t116:=Tryz.underlying190
 a116:=Tryz.isAgg190
 z116:=Tryz.sizeOf190
 t117:=Tryz.underlying191
 a117:=Tryz.isAgg191
 z117:=Tryz.sizeOf191
 v117:=Tryz.zeroValue191
 t119:=Tryz.underlying232
 a119:=Tryz.isAgg232
 z119:=Tryz.sizeOf232
 t124:=Tryz.underlying194
 a124:=Tryz.isAgg194
 z124:=Tryz.sizeOf194
 v124:=Tryz.zeroValue194
 t138:=Tryz.underlying234
 a138:=Tryz.isAgg234
 z138:=Tryz.sizeOf234
 v138:=Tryz.zeroValue234
 t139:=Tryz.underlying235
 a139:=Tryz.isAgg235
 z139:=Tryz.sizeOf235
 v139:=Tryz.zeroValue235
 g3:=by kernel_rfl
 g4:=by kernel_rfl }
end Go.Proofs
namespace Go.Proofs.YtpfidgnkokidoaaGreatDoor
open Go Go.Ev Go.RowKit
set_option maxRecDepth 100000
variable (s:Str)
def aS:Int:=match Lib.parseIntB 64 s with
 | .ok v=>v
 | .syntax=>0
 | .range=>Lib.intSat 64 s
def du:Bool:=match Lib.parseIntB 64 s with
 | .ok _=>true
 | _=>false
def gV:Str:=[48,49,50,51,52,53,54,55,56,57]
def lJ:Str:=Lib.trimS s gV
theorem vS {V:Vn} {s:Str} {vs:List Value} (hv:All2 (SX.R V) [SX.s s,SX.i 10,SX.i 64] vs):vs=[.string (bs s),.int .i64 10,.int .i64 64]:=by
 cases hv with
 | cons a1 hv=>cases hv with
   | cons a2 hv=>cases hv with
     | cons a3 hv =>
       cases hv
       have a1':PR V.H (.str s) _:=a1
       have a2':PR V.H (.int .i64 10) _:=a2
       have a3':PR V.H (.int .i64 64) _:=a3
       cases a1'; cases a2'; cases a3'
       rfl
theorem Jk (hs:s.length≤281474976710656) (h:du s=true):ak Tryz.prog 116 [.s s,.i 10,.i 64] [] (.tup [.i (aS s),.c (.pd (.v .nilIface))]) []:=by
 intro w V vs hw hT hv
 rw [vS hv]
 have hsz:(bs s).size=s.length:=eP s
 unfold du at h
 split at h
 · rename_i v hp
   refine (Tryz.strconv_ParseInt_10_at64_ok (bs s) (by omega) v (by rw [cE]; exact hp) w).mono fun e w' ⟨he,hw'⟩=>?_
   subst he
   have hb:Below w.heap.size w w':=by
    rcases hw' with rfl | ⟨t,rfl⟩
    · exact Below.refl _ _
    · exact Lib.bytesWorld_below w _ t
   have ev:aS s=v:=by simp [aS,hp]
   exact ⟨_,V,rfl,⟨_,rfl,.cons (by rw [ev]; exact PR.int _ _) (.cons (PR.v _ rfl) .nil)⟩,hw.kept (jP hb)⟩
 · cases h
theorem Ix (hs:s.length≤281474976710656) (h:du s=false):ak Tryz.prog 116 [.s s,.i 10,.i 64] [] (.tup [.i (aS s),.c (.pd .err)]) []:=by
 intro w V vs hw hT hv
 rw [vS hv]
 have hsz:(bs s).size=s.length:=eP s
 unfold du at h
 split at h
 · cases h
 · rename_i hn
   rcases hp:Lib.parseIntB 64 s with v | - | -
   · exact absurd hp (hn v)
   · obtain ⟨tp,p,hm⟩:=(hT.2.1) (by kernel_rfl)
     refine (Tryz.strconv_ParseInt_10_at64_syntax_var (bs s) (by omega) (by rw [cE]; exact hp) tp p w (hm.world hw.imm)).mono fun e w' ⟨N,he,_,_,hb⟩=>?_
     subst he
     have ev:aS s=0:=by simp [aS,hp]
     exact ⟨_,V,rfl,⟨_,rfl,.cons (by rw [ev]; exact PR.int _ _) (.cons (PR.err _ _) .nil)⟩,hw.kept (jP hb)⟩
   · obtain ⟨tp,p,hm⟩:=(hT.2.2.1) (by kernel_rfl)
     refine (Tryz.strconv_ParseInt_10_at64_range_var (bs s) (by omega) (by rw [cE]; exact hp) tp p w (hm.world hw.imm)).mono fun e w' ⟨N,he,_,_,hb⟩=>?_
     subst he
     have ev:aS s=Lib.intSat 64 s:=by simp [aS,hp]
     exact ⟨_,V,rfl,⟨_,rfl,.cons (by rw [ev]; have:=PR.int (H:=V.H) .i64 (Lib.intSat 64 s); rw [cE]; exact this) (.cons (PR.err _ _) .nil)⟩,hw.kept (jP hb)⟩
theorem Gq (hs:s.length≤9223372036854775807):ak Tryz.prog 115 [.s s,.s gV] [] (.x (.s (lJ s))) []:=by
 intro w V vs hw hT hv
 cases hv with
 | cons a1 hv=>cases hv with
   | cons a2 hv =>
     cases hv
     have a1':PR V.H (.str s) _:=a1
     have a2':PR V.H (.str gV) _:=a2
     cases a1'; cases a2'
     have hsz:(bs s).size=s.length:=eP s
     refine (Any.strings_Trim_laid Tryz.lays160 (by kernel_rfl) (bs s) (bs gV) w (by omega) (by decide) (Go.Proofs.ascii_of_all (by decide))).mono fun e w' ⟨he,hb⟩=>?_
     subst he
     refine ⟨_,V,rfl,?_,hw.kept (jP hb)⟩
     have e1:(bs s).data.toList=s:=cE s
     have e2:(bs gV).data.toList=gV:=cE gV
     rw [e1,e2]
     exact PR.str (lJ s)
def ou:Ent:=(116,fun
 | [.c (.pd (.str s)),.c (.pd (.int .i64 10)),.c (.pd (.int .i64 64))],[]=>some (some (s.length≤281474976710656∧du s=true),.tup [.c (.pd (.int .i64 (aS s))),.c (.pd (.v .nilIface))],[])
 | _,_=>none)
theorem vI:EntOk Tryz.prog ou:=entOk fun vs ck=>by
 unfold ou; dsimp only; split
 · rename_i s; exact entS fun hp=>Jk s hp.1 hp.2
 · exact entN
def oB:Ent:=(116,fun
 | [.c (.pd (.str s)),.c (.pd (.int .i64 10)),.c (.pd (.int .i64 64))],[]=>some (some (s.length≤281474976710656∧du s=false),.tup [.c (.pd (.int .i64 (aS s))),.c (.pd .err)],[])
 | _,_=>none)
theorem vm:EntOk Tryz.prog oB:=entOk fun vs ck=>by
 unfold oB; dsimp only; split
 · rename_i s; exact entS fun hp=>Ix s hp.1 hp.2
 · exact entN
def uq:Ent:=(115,fun
 | [.c (.pd (.str s)),.c (.pd (.str [48,49,50,51,52,53,54,55,56,57]))],[]=>some (some (s.length≤9223372036854775807),.x (.c (.pd (.str (lJ s)))),[])
 | _,_=>none)
theorem Aq:EntOk Tryz.prog uq:=entOk fun vs ck=>by
 unfold uq; dsimp only; split
 · rename_i s; exact entS fun hp=>Gq s hp
 · exact entN
def Ik:Cfg:=⟨bu,[q9,uq,ou]⟩
theorem G9:ai Tryz.prog Ik.tab:=(ai.cons oe (ai.cons Aq (ai.cons vI ai.nil)))
def HP:Cfg:=⟨bu,[q9,uq,oB]⟩
theorem F5:ai Tryz.prog HP.tab:=(ai.cons oe (ai.cons Aq (ai.cons vm ai.nil)))
end Go.Proofs.YtpfidgnkokidoaaGreatDoor
namespace Go.Proofs.YtpfidgnkokidoaaGreatDoor
open Go Go.Ev
set_option maxRecDepth 100000
/-! ### plain -/
variable (c:UInt8) (r s:Str)
def isD:Bool:=decide (48≤(c.toNat:Int))&&decide ((c.toNat:Int)≤57)
def cT:Nat→List UInt8→Nat
 | a,[]=>a
 | a,c::r=>cT (10 * a+(c.toNat - 48)) r
def fQ:Bool:=bz s [45]==[] || !(bz s [45]).all isD||(((bz s [45]).getD 0 0).toNat:Int)==48&&(decide (af (bz s [45])>1)||bm s [45])
def bb:Int×Int:=if fQ s=true then (0,1) else if 1099511627776<cT 0 (bz s [45]) then (0,5) else (if bm s [45]=true then -(cT 0 (bz s [45]):Int) else (cT 0 (bz s [45]):Int),0)
theorem MS:gV.contains c=isD c:=by
 rw [cM]
 simp only [gV,isD,List.contains_eq_mem,aN,List.not_mem_nil,or_false,decide_eq_true_eq,ab]
 constructor
 · intro h
   rcases h with rfl | rfl | rfl | rfl | rfl | rfl | rfl | rfl | rfl | rfl <;> decide
 · intro h
   have hn:c.toNat=48∨c.toNat=49∨c.toNat=50∨c.toNat=51∨c.toNat=52∨c.toNat=53∨c.toNat=54∨c.toNat=55∨c.toNat=56∨c.toNat=57:=by omega
   have key:∀ d:UInt8,c.toNat=d.toNat→c=d:=fun d h=>gp.1 h
   rcases hn with h | h | h | h | h | h | h | h | h | h
   · exact .inl (key 48 h)
   · exact .inr (.inl (key 49 h))
   · exact .inr (.inr (.inl (key 50 h)))
   · exact .inr (.inr (.inr (.inl (key 51 h))))
   · exact .inr (.inr (.inr (.inr (.inl (key 52 h)))))
   · exact .inr (.inr (.inr (.inr (.inr (.inl (key 53 h))))))
   · exact .inr (.inr (.inr (.inr (.inr (.inr (.inl (key 54 h)))))))
   · exact .inr (.inr (.inr (.inr (.inr (.inr (.inr (.inl (key 55 h))))))))
   · exact .inr (.inr (.inr (.inr (.inr (.inr (.inr (.inr (.inl (key 56 h)))))))))
   · exact .inr (.inr (.inr (.inr (.inr (.inr (.inr (.inr (.inr (key 57 h)))))))))
theorem dropWhile_nil {p:UInt8→Bool}:∀ {l:List UInt8},l.dropWhile p=[]↔∀ x∈l,p x=true
 | []=>by simp
 | c::r=>by
   rw [List.dropWhile_cons]
   by_cases h:p c=true
   · rw [if_pos h,dropWhile_nil]; simp [h]
   · rw [if_neg h]; simp [h]
theorem nU {p:UInt8→Bool} {a:UInt8} {r:List UInt8}:∀ {l:List UInt8},l.dropWhile p=a::r→p a=false
 | [],h=>by simp at h
 | c :: l,h=>by
   rw [List.dropWhile_cons] at h
   by_cases hc:p c=true
   · rw [if_pos hc] at h; exact nU h
   · rw [if_neg hc] at h
     simp only [gr] at h
     rw [← h.1]; simpa using hc
theorem Ba (l:Str):(lJ l==[])=l.all isD:=by
 have hp:(fun c=>gV.contains c)=isD:=funext MS
 have e:lJ l=((l.reverse.dropWhile isD).reverse).dropWhile isD:=by
  show ((l.reverse.dropWhile (gV.contains ·)).reverse).dropWhile (gV.contains ·)=_
  rw [hp]
 rw [e,cM,beq_iff_eq,al]
 constructor
 · intro h
   have h1:=dropWhile_nil.1 h
   have h2:l.reverse.dropWhile isD=[]:=by
    cases hx:l.reverse.dropWhile isD with
    | nil=>rfl
    | cons a r =>
      exfalso
      have h3:=h1 a (by rw [hx]; simp)
      have h4:=nU hx
      rw [h3] at h4; cases h4
   intro x hx
   exact dropWhile_nil.1 h2 x (by simpa using hx)
 · intro h
   have h2:l.reverse.dropWhile isD=[]:=dropWhile_nil.2 fun x hx=>h x (by simpa using hx)
   rw [h2]; rfl
theorem rE:∀ (l:List UInt8) (a:Nat),a≤cT a l
 | [],a=>aw _
 | c::r,a=>by
   have h1:=rE r (10 * a+(c.toNat - 48))
   have h2:a≤10 * a+(c.toNat - 48):=by omega
   exact bn h2 h1
theorem Bm (M:Nat) (hM:M=18446744073709551615):∀ (l:List UInt8) (a:Nat),l.all isD=true→a≤M→Lib.parseUintM M a l=if cT a l≤M then .ok (cT a l) else .range
 | [],a,_,h=>by
   have e:cT a []=a:=rfl
   rw [e,if_pos h]; rfl
 | c :: r,a,h,ha=>by
   simp only [aE,ab] at h
   have hd:48≤c.toNat∧c.toNat≤57:=by
    have:=h.1
    simp only [isD,ab,decide_eq_true_eq] at this
    omega
   have hge:=rE r (10 * a+(c.toNat - 48))
   have hc:a * 10+(c.toNat - 48)=10 * a+(c.toNat - 48):=by omega
   have hv:cT a (c::r)=cT (10 * a+(c.toNat - 48)) r:=rfl
   have hu:Lib.parseUintM M a (c::r)=if 48≤c.toNat∧c.toNat≤57 then (if 1844674407370955162≤a then .range else if M<a * 10+(c.toNat - 48) then .range else Lib.parseUintM M (a * 10+(c.toNat - 48)) r) else .syntax:=rfl
   rw [hu,if_pos hd,hv,hc]
   generalize 10 * a+(c.toNat - 48)=b at *
   by_cases h1:1844674407370955162≤a
   · rw [if_pos h1,if_neg (by omega)]
   · rw [if_neg h1]
     by_cases h2:M<b
     · rw [if_pos h2,if_neg (by omega)]
     · rw [if_neg h2]
       exact Bm M hM r b h.2 (by omega)
theorem jb:bz (45::r) [45]=r∧bm (45::r) [45]=true:=by
 have h:bm (45::r) [45]=true:=by simp [bm,af]; omega
 exact ⟨by rw [bz,h]; rfl,h⟩
theorem jk {c:UInt8} (r:Str) (h:c≠45):bz (c::r) [45]=c::r∧bm (c::r) [45]=false:=by
 have h':bm (c::r) [45]=false:=by simp [bm,af,h]
 exact ⟨by rw [bz,h']; rfl,h'⟩
theorem Db:bz [] [45]=[]∧bm [] [45]=false:=by decide
theorem nh {s:Str} (h:fQ s=false):(du s=true→aS s=if bm s [45]=true then -(cT 0 (bz s [45]):Int) else (cT 0 (bz s [45]):Int))∧(du s=false→9223372036854775808≤cT 0 (bz s [45])):=by
 simp only [fQ,aI,cG] at h
 obtain ⟨⟨hne,hall⟩,_⟩:=h
 cases s with
 | nil=>rw [Db.1] at hne; simp at hne
 | cons c r =>
   by_cases hc:c=45
   · subst hc
     rw [(jb r).1] at hne hall ⊢
     rw [(jb r).2]
     have hr:r≠[]:=by simpa using hne
     have hu:Lib.parseUintB 64 r=if cT 0 r≤18446744073709551615 then .ok (cT 0 r) else .range:=by
      rw [Lib.parseUintB,if_neg hr]; exact Bm _ rfl r 0 hall (br _)
     have hp:Lib.parseIntB 64 (45::r)=if cT 0 r≤18446744073709551615 then (if 9223372036854775808<cT 0 r then .range else .ok (-(cT 0 r:Int))) else .range:=by
      simp only [Lib.parseIntB]
      have e1:((45:UInt8).toNat=43∨(45:UInt8).toNat=45):=.inr rfl
      rw [if_pos e1,hu]
      by_cases hv:cT 0 r≤18446744073709551615
      · rw [if_pos hv,if_pos hv]; simp
      · rw [if_neg hv,if_neg hv]
     unfold du aS
     rw [hp]
     by_cases hv:cT 0 r≤18446744073709551615
     · rw [if_pos hv]
       by_cases h2:9223372036854775808<cT 0 r
       · rw [if_pos h2]; exact ⟨fun h=>absurd h (by simp),fun _=>by omega⟩
       · rw [if_neg h2]; exact ⟨fun _=>by simp,fun h=>absurd h (by simp)⟩
     · rw [if_neg hv]; exact ⟨fun h=>absurd h (by simp),fun _=>by omega⟩
   · rw [(jk r hc).1] at hne hall ⊢
     rw [(jk r hc).2]
     have hdig:48≤c.toNat:=by
      have:=hall
      simp only [aE,ab,isD,decide_eq_true_eq] at this; omega
     have hu:Lib.parseUintB 64 (c::r)=if cT 0 (c::r)≤18446744073709551615 then .ok (cT 0 (c::r)) else .range:=by
      rw [Lib.parseUintB,if_neg (by simp)]; exact Bm _ rfl (c::r) 0 hall (br _)
     have hp:Lib.parseIntB 64 (c::r)=if cT 0 (c::r)≤18446744073709551615 then (if 9223372036854775808≤cT 0 (c::r) then .range else .ok (cT 0 (c::r):Int)) else .range:=by
      simp only [Lib.parseIntB]
      have e1:¬(c.toNat=43∨c.toNat=45):=by omega
      have e2:¬c.toNat=45:=by omega
      rw [if_neg e1,hu]
      by_cases hv:cT 0 (c::r)≤18446744073709551615
      · rw [if_pos hv,if_pos hv]; simp [e2]
      · rw [if_neg hv,if_neg hv]
     unfold du aS
     rw [hp]
     by_cases hv:cT 0 (c::r)≤18446744073709551615
     · rw [if_pos hv]
       by_cases h2:9223372036854775808≤cT 0 (c::r)
       · rw [if_pos h2]; exact ⟨fun h=>absurd h (by simp),fun _=>by omega⟩
       · rw [if_neg h2]; exact ⟨fun _=>by simp,fun h=>absurd h (by simp)⟩
     · rw [if_neg hv]; exact ⟨fun h=>absurd h (by simp),fun _=>by omega⟩
/-! ### the program's -/
theorem Cu (hs:s.length≤281474976710656):ak Tryz.prog 78 [.s s] [] (wM (bb s)) []:=by
 have hcl:(bz s [45]).length≤s.length:=by
  unfold bz
  cases bm s [45]
  · exact aw _
  · simp only [cond_true,bF]; omega
 have hL:af (bz s [45])=((bz s [45]).length:Int):=rfl
 have hpos:(bz s [45]==[])=false→0<(bz s [45]).length:=fun h=>gh.2 (by simpa using h)
 cases hok:du s
 · refine dg F5 Tryz.func78 (let x1:=(bz s [(45:UInt8)]); .need ((bz s [(45:UInt8)]==[])=false→x1.length≤9223372036854775807) (.need ((bz s [(45:UInt8)]==[] || !lJ x1==[])=false→(0:Int)≤0∧(0:Int)<af x1) (.ite (bz s [(45:UInt8)]==[] || !lJ x1==[]||(↑((List.getD x1 0 (0:UInt8)).toNat):Int)==48&&(decide (af x1>(1:Int))||bm s [(45:UInt8)])) (.ret (.tup [.i 0,.i 1]) []) (.need (s.length≤281474976710656∧du s=false) (.ite true (.ret (.tup [.i 0,.i 5]) []) (.ret (.tup [.i (aS s),.i 0]) [])))))) fun Γ=>?_
   conv=>zeta
   rw [Ba]
   refine ⟨fun _=>by omega,fun h=>?_,fun h=>⟨congrArg wM (a₁:=(0,1)) ?_,rfl⟩,fun h=>⟨⟨hs,hok⟩,fun _=>⟨congrArg wM (a₁:=(0,5)) ?_,rfl⟩,fun h=>Bool.noConfusion h⟩⟩
   · simp only [aI] at h
     have:=hpos h.1; omega
   · have hb:fQ s=true:=h
     rw [bb,if_pos hb]
   · have hb:fQ s=false:=h
     have:=(nh hb).2 hok
     rw [bb,if_neg (by rw [hb]; simp),if_pos (by omega)]
 · refine dg G9 Tryz.func78 (let x1:=(bz s [(45:UInt8)]); .need ((bz s [(45:UInt8)]==[])=false→x1.length≤9223372036854775807) (.need ((bz s [(45:UInt8)]==[] || !lJ x1==[])=false→(0:Int)≤0∧(0:Int)<af x1) (.ite (bz s [(45:UInt8)]==[] || !lJ x1==[]||(↑((List.getD x1 0 (0:UInt8)).toNat):Int)==48&&(decide (af x1>(1:Int))||bm s [(45:UInt8)])) (.ret (.tup [.i 0,.i 1]) []) (.need (s.length≤281474976710656∧du s=true) (.ite (false||decide (aS s>(1099511627776:Int))||decide (aS s<(-1099511627776:Int))) (.ret (.tup [.i 0,.i 5]) []) (.ret (.tup [.i (aS s),.i 0]) [])))))) fun Γ=>?_
   conv=>zeta
   rw [Ba]
   refine ⟨fun _=>by omega,fun h=>?_,fun h=>⟨congrArg wM (a₁:=(0,1)) ?_,rfl⟩,fun h=>⟨⟨hs,hok⟩,fun g=>⟨congrArg wM (a₁:=(0,5)) ?_,rfl⟩,fun g=>⟨congrArg wM (a₁:=(aS s,0)) ?_,rfl⟩⟩⟩
   · simp only [aI] at h
     have:=hpos h.1; omega
   · have hb:fQ s=true:=h
     rw [bb,if_pos hb]
   · have hb:fQ s=false:=h
     have hv:=(nh hb).1 hok
     simp only [dT,aF,decide_eq_true_eq] at g
     rw [bb,if_neg (by rw [hb]; simp),if_pos]
     rw [hv] at g
     split at g <;> omega
   · have hb:fQ s=false:=h
     have hv:=(nh hb).1 hok
     simp only [dT,aI,decide_eq_false_iff_not] at g
     rw [bb,if_neg (by rw [hb]; simp),if_neg,hv]
     rw [hv] at g
     split at g <;> omega
end Go.Proofs.YtpfidgnkokidoaaGreatDoor
namespace Go.Proofs.YtpfidgnkokidoaaGreatDoor
open Go Go.Ev
set_option maxRecDepth 100000
structure Rd where
 pos:Int
 out:List Cell
 bad:Int
variable (s:Str) (a b:UInt8) (rest:Str) (x:UInt8) (p:Int) (r:Rd) (k:Int) (y:UInt8)
def Rd.wrong:Rd:=⟨r.pos,r.out,if r.bad<0 then k else r.bad⟩
def Rd.emit (c:Cell):Rd:=⟨r.pos,r.out++[c],r.bad⟩
def Rd.to:Rd:=⟨k,r.out,r.bad⟩
def bU:Int:=((s.getD k.toNat 0).toNat:Int)
def ax (op:Int):Str×Int :=
 bif op==23 then ([124],1) else bif op==22 then ([38],2) else bif op==16 then ([61],3) else bif op==17 then ([33,61],3) else bif op==18 then ([60],3) else bif op==19 then ([60,61],3)
 else bif op==20 then ([62],3) else bif op==21 then ([62,61],3) else bif op==11 then ([43],4) else bif op==12 then ([45],4) else bif op==13 then ([42],5) else bif op==14 then ([47],5) else bif op==15 then ([37],5)
 else bif op==7 then ([45],6) else bif op==8 then ([33],6) else ([],7)
def opsL:List Int:=[17,19,21,18,20,16,23,22,11,12,13,14,15]
def bg (rest:Str) (p:Int):List Int→Int×Int
 | []=>(0,0)
 | op::l=>bif (ax op).2==p&&bm rest (ax op).1 then (op,af (ax op).1) else bg rest p l
def bp:Int×Int:=bg rest p opsL
def py:Int:=if a=43 then 11 else if a=45 then 12 else if a=42 then 13 else if a=47 then 14 else if a=37 then 15 else if a=61 then 16 else if a=60 then 18 else if a=62 then 20 else if a=38 then 22 else if a=124 then 23 else 0
def gf:Int:=if b=61 then (if a=33 then 17 else if a=60 then 19 else if a=62 then 21 else 0) else 0
def gT:Int×Int:=if py a=0 then (0,0) else (py a,1)
def bZ:Str→Int×Int
 | []=>(0,0)
 | [a]=>gT a
 | a::b::_=>if gf a b=0 then gT a else (gf a b,2)
def fJ (c:UInt8):Bool:=(decide ((c.toNat:Int)≥97)&&decide ((c.toNat:Int)≤122))||(decide ((c.toNat:Int)≥48)&&decide ((c.toNat:Int)≤57))||(c.toNat:Int)==95
def aG:Str:=(s.drop k.toNat).takeWhile fJ
def fm:Str:=[116,114,117,101]
def fS:Str:=[102,97,108,115,101]
def inS:Str:=[105,110]
def reS:Str:=[114,101]
def imS:Str:=[105,109]
def gH:Bool:=decide (k+af (aG s k)<af s)&&bU s (k+af (aG s k))==40
def bQ:Rd:=(if r.bad<0∧(r.pos=af s∨bU s r.pos≠41) then r.wrong r.pos else r).to (r.pos+1)
def cg:Int:=if bU s k=48 then k+1 else k+af ((s.drop k.toNat).takeWhile isD)
def dn:Bool:=decide (cg s k<af s)&&bU s (cg s k)==105
def cX:Str:=(s.take (cg s k).toNat).drop k.toNat
def fB:Cell:=⟨if dn s k=true then 2 else 1,(bb (cX s k)).1,[]⟩
def cC:Rd :=
 if (bb (cX s r.pos)).2≠0∨bx (fB s r.pos)<0 then r.wrong r.pos
 else (r.to (if dn s r.pos=true then cg s r.pos+1 else cg s r.pos)).emit (fB s r.pos)
def inR:Rd :=
 if aO (aG s (r.pos+3))=false then (r.to (r.pos+3)).wrong (r.pos+3)
 else (bQ s (r.to (r.pos+3+af (aG s (r.pos+3))))).emit ⟨6,0,aG s (r.pos+3)⟩
def eQ:Rd :=
 if isD (s.getD r.pos.toNat 0)=true then cC s r
 else if aG s r.pos=fm then (r.emit ⟨3,0,[]⟩).to (r.pos+4)
 else if aG s r.pos=fS then (r.emit ⟨4,0,[]⟩).to (r.pos+5)
 else if aG s r.pos=inS∧gH s r.pos=true then inR s r
 else if aO (aG s r.pos)=true then (r.emit ⟨5,0,aG s r.pos⟩).to (r.pos+af (aG s r.pos))
 else r.wrong r.pos
inductive Hd where
 | fin
 | pre (op:Int)
 | par
 | call (op:Int)
 | leaf
def cw:Hd :=
 if k=af s then .fin else if bU s k=45 then .pre 7 else if bU s k=33 then .pre 8
 else if isD (s.getD k.toNat 0)=true then .leaf else if bU s k=40 then .par
 else if aG s k=reS∧gH s k=true then .call 9 else if aG s k=imS∧gH s k=true then .call 10 else .leaf
def atEnd:Prop:=¬(r.bad<0∧(bp (s.drop r.pos.toNat) p).1≠0)
inductive Task where
 | bin (p:Int)
 | loop (p:Int)
 | una
inductive Run (s:Str):Task→Rd→Rd→Prop where
 | six {r q:Rd}:Run s .una r q→Run s (.bin 6) r q
 | bin {p:Int} {r q o:Rd}:1≤p→p≤5→Run s (.bin (p+1)) r q→Run s (.loop p) q o→Run s (.bin p) r o
 | done {p:Int} {r:Rd}:atEnd s p r→Run s (.loop p) r r
 | more {p:Int} {r q o:Rd}:1≤p→p≤5→p≠3→¬atEnd s p r→Run s (.bin (p+1)) (r.to (r.pos+(bp (s.drop r.pos.toNat) p).2)) q→Run s (.loop p) (q.emit ⟨(bp (s.drop r.pos.toNat) p).1,0,[]⟩) o→Run s (.loop p) r o
 | once {r q:Rd}:¬atEnd s 3 r→Run s (.bin 4) (r.to (r.pos+(bp (s.drop r.pos.toNat) 3).2)) q→Run s (.loop 3) r (q.emit ⟨(bp (s.drop r.pos.toNat) 3).1,0,[]⟩)
 | lost {r:Rd}:0≤r.bad∨cw s r.pos = .fin→Run s .una r (r.wrong r.pos)
 | sign {r q:Rd} {op:Int}:r.bad<0→cw s r.pos = .pre op→Run s .una (r.to (r.pos+1)) q→Run s .una r (q.emit ⟨op,0,[]⟩)
 | leaf {r:Rd}:r.bad<0→cw s r.pos = .leaf→Run s .una r (eQ s r)
 | par {r q:Rd}:r.bad<0→cw s r.pos = .par→Run s (.bin 1) (r.to (r.pos+1)) q→Run s .una r (bQ s q)
 | call {r q:Rd} {op:Int}:r.bad<0→cw s r.pos = .call op→Run s (.bin 1) (r.to (r.pos+3)) q→Run s .una r ((bQ s q).emit ⟨op,0,[]⟩)
/-! ### signs -/
theorem td:bm [a] [x]=(a==x):=by simp [bm,af]
theorem ra:bm [a] [x,y]=false:=by simp [bm,af]
theorem tg (r:Str):bm (a::b::r) [x]=(a==x):=by
 have h:decide (af (a::b::r)≥af [x])=true:=decide_eq_true (by simp [af]; omega)
 rw [bm,h]
 show ([a]==[x])=_
 simp
theorem q8 (r:Str):bm (a::b::r) [x,y]=(a==x&&b==y):=by
 have h:decide (af (a::b::r)≥af [x,y])=true:=decide_eq_true (by simp [af]; omega)
 rw [bm,h]
 show ([a,b]==[x,y])=_
 simp
theorem BM (h1:1≤p) (h5:p≤5):bp [a] p=if (ax (bZ [a]).1).2=p then bZ [a] else (0,0):=by
 have hp:p=1∨p=2∨p=3∨p=4∨p=5:=by omega
 by_cases e0:a=43
 · subst e0; rcases hp with rfl | rfl | rfl | rfl | rfl <;> rfl
 by_cases e1:a=45
 · subst e1; rcases hp with rfl | rfl | rfl | rfl | rfl <;> rfl
 by_cases e2:a=42
 · subst e2; rcases hp with rfl | rfl | rfl | rfl | rfl <;> rfl
 by_cases e3:a=47
 · subst e3; rcases hp with rfl | rfl | rfl | rfl | rfl <;> rfl
 by_cases e4:a=37
 · subst e4; rcases hp with rfl | rfl | rfl | rfl | rfl <;> rfl
 by_cases e5:a=61
 · subst e5; rcases hp with rfl | rfl | rfl | rfl | rfl <;> rfl
 by_cases e6:a=60
 · subst e6; rcases hp with rfl | rfl | rfl | rfl | rfl <;> rfl
 by_cases e7:a=62
 · subst e7; rcases hp with rfl | rfl | rfl | rfl | rfl <;> rfl
 by_cases e8:a=38
 · subst e8; rcases hp with rfl | rfl | rfl | rfl | rfl <;> rfl
 by_cases e9:a=124
 · subst e9; rcases hp with rfl | rfl | rfl | rfl | rfl <;> rfl
 have q:∀ x:UInt8,¬a=x→(a==x)=false:=fun x h=>beq_eq_false_iff_ne.2 h
 have e:bZ [a]=(0,0):=by simp only [bZ,gT,py,e0,e1,e2,e3,e4,e5,e6,e7,e8,e9,if_false,if_true]
 rw [e]
 have hs:(ax ((0,0):Int×Int).1).2≠p:=by show (7:Int)≠p; omega
 rw [if_neg hs]
 simp [bp,opsL,bg,ax,td,ra,q _ e0,q _ e1,q _ e2,q _ e3,q _ e4,q _ e5,q _ e6,q _ e7,q _ e8,q _ e9]
theorem Iz (r:Str) (p:Int) (h:(b==61)=false∨(a==33)=false∧(a==60)=false∧(a==62)=false):bp (a::b::r) p=bp [a] p∧bZ (a::b::r)=bZ [a]:=by
 refine ⟨?_,?_⟩
 · rcases h with h | ⟨h1,h2,h3⟩
   · simp [bp,opsL,bg,ax,td,ra,tg,q8,h]
   · simp [bp,opsL,bg,ax,td,ra,tg,q8,h1,h2,h3]
 · have e:gf a b=0:=by
    unfold gf
    rcases h with h | ⟨h1,h2,h3⟩
    · rw [if_neg (by simpa using h)]
    · have g1:¬a=33:=by simpa using h1
      have g2:¬a=60:=by simpa using h2
      have g3:¬a=62:=by simpa using h3
      simp [g1,g2,g3]
   simp only [bZ,e,if_true]
theorem K0 (r:Str) (p:Int) (h1:1≤p) (h5:p≤5) (ha:a=33∨a=60∨a=62):bp (a::61::r) p=if (ax (bZ (a::61::r)).1).2=p then bZ (a::61::r) else (0,0):=by
 have hp:p=1∨p=2∨p=3∨p=4∨p=5:=by omega
 rcases ha with rfl | rfl | rfl <;> rcases hp with rfl | rfl | rfl | rfl | rfl <;> simp [bp,opsL,bg,ax,tg,q8,bZ,gf,af]
theorem pH (h1:1≤p) (h5:p≤5):bp rest p=if (ax (bZ rest).1).2=p then bZ rest else (0,0):=by
 match rest with
 | [] =>
   have hp:p=1∨p=2∨p=3∨p=4∨p=5:=by omega
   rcases hp with rfl | rfl | rfl | rfl | rfl <;> rfl
 | [a]=>exact BM a p h1 h5
 | a :: b::r =>
   by_cases h:(b==61)=false∨(a==33)=false∧(a==60)=false∧(a==62)=false
   · obtain ⟨e1,e2⟩:=Iz a b r p h
     rw [e1,e2]; exact BM a p h1 h5
   · simp only [not_or,Bool.not_eq_false,beq_iff_eq] at h
     obtain ⟨rfl,h⟩:=h
     refine K0 a r p h1 h5 ?_
     by_cases h3:a=33
     · exact .inl h3
     · by_cases h4:a=60
       · exact .inr (.inl h4)
       · by_cases h6:a=62
         · exact .inr (.inr h6)
         · exact absurd ⟨beq_eq_false_iff_ne.2 h3,beq_eq_false_iff_ne.2 h4,beq_eq_false_iff_ne.2 h6⟩ h
theorem CE:bZ rest=(0,0)∨(11≤(bZ rest).1∧(bZ rest).1≤23∧1≤(bZ rest).2∧(bZ rest).2≤af rest∧(bZ rest).2≤2∧1≤(ax (bZ rest).1).2∧(ax (bZ rest).1).2≤5):=by
 have key:∀ a:UInt8,gT a=(0,0)∨(11≤(gT a).1∧(gT a).1≤23∧(gT a).2=1∧1≤(ax (gT a).1).2∧(ax (gT a).1).2≤5):=by
  intro a
  unfold gT py
  repeat' split
  all_goals first | (left; rfl) | (right; decide) | skip
  all_goals simp at *
 match rest with
 | []=>exact .inl rfl
 | [a] =>
   rcases key a with h | ⟨h1,h2,h3,h4,h5⟩
   · exact .inl h
   · right
     have e:(bZ [a]).2=1:=h3
     have hl:af [a]=1:=rfl
     refine ⟨h1,h2,?_,?_,?_,h4,h5⟩ <;> omega
 | a :: b::r =>
   have hl:af (a::b::r)=(r.length:Int)+2:=by simp [af]; omega
   by_cases h2:gf a b=0
   · have e:bZ (a::b::r)=gT a:=by simp only [bZ,h2,if_true]
     rw [e,hl]
     rcases key a with h | ⟨h1,h2,h3,h4,h5⟩
     · exact .inl h
     · right; exact ⟨h1,h2,by omega,by omega,by omega,h4,h5⟩
   · have e:bZ (a::b::r)=(gf a b,2):=by simp only [bZ,h2,if_false]
     rw [e,hl]
     right
     have ht:gf a b=17∨gf a b=19∨gf a b=21:=by
      unfold gf at h2 ⊢
      repeat' (split at h2)
      all_goals first | (exact absurd rfl h2) | skip
      · rename_i g1 g2; rw [if_pos g1,if_pos g2]; exact .inl rfl
      · rename_i g1 g2 g3; rw [if_pos g1,if_neg g2,if_pos g3]; exact .inr (.inl rfl)
      · rename_i g1 g2 g3 g4; rw [if_pos g1,if_neg g2,if_neg g3,if_pos g4]; exact .inr (.inr rfl)
     rcases ht with e | e | e <;> rw [e] <;> exact ⟨by decide,by decide,by decide,by show (2:Int)≤_; omega,by decide,by decide,by decide⟩
end Go.Proofs.YtpfidgnkokidoaaGreatDoor
