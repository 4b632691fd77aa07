/- Contracts of the document's reader of expressions: operands. Conditions: places within the text. -/
import Derived.Test.YtpfidgnkokidoaaGreatDoorMp
import Derived.Test.YtpfidgnkokidoaaGreatDoorOb
namespace Go.Proofs.YtpfidgnkokidoaaGreatDoor
open Go Go.Ev
set_option maxRecDepth 100000
variable {s:Str}
theorem Fc {r:Rd} (hd:isD (s.getD r.pos.toNat 0)=false):c6 s r=if ay s r.pos=ei then (r.emit ⟨3,0,[]⟩).to (r.pos+4) else if ay s r.pos=fF then (r.emit ⟨4,0,[]⟩).to (r.pos+5) else if ay s r.pos=inS∧eh s r.pos=true then inR s r else if aC (ay s r.pos)=true then (r.emit ⟨5,0,ay s r.pos⟩).to (r.pos+ab (ay s r.pos)) else r.wrong r.pos:=by
 unfold c6; rw [if_neg (by rw [hd]; simp)]
theorem rC {m:Mc} (h:b8 s m.pos = .leaf):aR s m=if (c6 s ⟨m.pos,m.out, -1⟩).bad<0 then (⟨(c6 s ⟨m.pos,m.out, -1⟩).pos,(c6 s ⟨m.pos,m.out, -1⟩).out,m.wt⟩, -1,true) else (⟨gb s m.pos,m.out,m.wt⟩,(c6 s ⟨m.pos,m.out, -1⟩).bad,false):=by
 unfold aR; rw [h]
theorem o2 {m:Mc} {o:Rd} (h:b8 s m.pos = .leaf) (hl:c6 s ⟨m.pos,m.out, -1⟩=o) (hb:o.bad<0):aR s m=(⟨o.pos,o.out,m.wt⟩, -1,true):=by
 rw [rC h,hl,if_pos hb]
theorem qi {m:Mc} {o:Rd} {k:Int} (h:b8 s m.pos = .leaf) (hl:c6 s ⟨m.pos,m.out, -1⟩=o) (hb:0≤o.bad) (hk:gb s m.pos=k):aR s m=(⟨k,m.out,m.wt⟩,o.bad,false):=by
 rw [rC h,hl,if_neg (by omega),hk]
theorem uz {m:Mc} {op:Int} (h:b8 s m.pos = .pre op):aR s m=(⟨m.pos+1,m.out,⟨op,6⟩::m.wt⟩, -1,false):=by unfold aR; rw [h]
theorem BN {m:Mc} (h:b8 s m.pos = .par):aR s m=(⟨m.pos+1,m.out,⟨0,0⟩::m.wt⟩, -1,false):=by unfold aR; rw [h]
theorem rK {m:Mc} {op:Int} (h:b8 s m.pos = .call op):aR s m=(⟨m.pos+3,m.out,⟨op,0⟩::m.wt⟩, -1,false):=by unfold aR; rw [h]
theorem BZ {m:Mc} (h:b8 s m.pos = .fin):aR s m=(m,m.pos,false):=by unfold aR; rw [h]
theorem vH {n:Nat} (h:n≤4000000):room n 16:=by unfold room maxLen; omega
def Ke:Cfg:=⟨a6,[sJ,jb,xt]⟩
theorem IA:ah Tryz.prog Ke.tab:=(ah.cons F7 (ah.cons gD (ah.cons JF ah.nil)))
theorem wD (s:Str) (pos:Int) (out:List Cell) (wt:List Wait) (hs:s.length≤1048576) (h0:0≤pos) (h1:pos≤ab s) (ho:out.length≤3000000) (hwt:wt.length≤3000000) :
 ak Tryz.prog 169 [.c (.loc 0 0)] (mkA s pos out wt) (.tup [.i (aR s ⟨pos,out,wt.reverse⟩).2.1,.b (aR s ⟨pos,out,wt.reverse⟩).2.2]) (mkB s (aR s ⟨pos,out,wt.reverse⟩).1.pos (aR s ⟨pos,out,wt.reverse⟩).1.out (aR s ⟨pos,out,wt.reverse⟩).1.wt.reverse):=by
 have hL:ab s=(s.length:Int):=rfl
 refine ak.mc Tryz.func169 (by kernel_rfl) (by kernel_rfl) rfl rfl fun Γ=>?_
 refine jg IA Tryz.func169 (let x5:=(IntKind.wrap .i64 (pos+(3:Int))); let x1:=(pos+IntKind.wrap .i64 ((3:Int)+ab (ay s x5))); let x7:=(pos+ab (ay s pos)); let x22:=(IntKind.wrap .i64 x7<ab s); let x2:=(decide x22&&(↑((List.getD s ((IntKind.wrap .i64 x7).toNat) (0:UInt8)).toNat):Int)==40); let x3:=(bU s { pos:=pos,out:=out,bad:=(-1:Int) }); let x19:=(List.getD s (Int.toNat pos) (0:UInt8)); let x4:=(↑(x19.toNat):Int); let x6:List Chunk:=[.cells [.pd (.str s),.i pos,.own 1,.own 2] 209,.own 92 .cell out,.own 238 .wait wt]; let x8:List Chunk:=[.cells [.pd (.str s),.i (Rd.pos x3),.own 3,.own 4] 209,.dead,.dead,.own 92 .cell (Rd.out x3),.own 238 .wait wt]; let x9:=(IntKind.wrap .i64 (pos+(1:Int))); let x10:=(out++[{ op:=(5:Int),a:=(0:Int),name:=ay s pos }]); let x11:=(out++[{ op:=(6:Int),a:=(0:Int),name:=ay s x5 }]); let x12:=(out++[{ op:=(3:Int),a:=(0:Int),name:=[] }]); let x13:=(out++[{ op:=(4:Int),a:=(0:Int),name:=[] }]); let x14:=(wt++[{ op:=(10:Int),power:=(0:Int) }]); let x15:=(wt++[{ op:=(7:Int),power:=(6:Int) }]); let x16:=(wt++[{ op:=(8:Int),power:=(6:Int) }]); let x17:=(wt++[{ op:=(0:Int),power:=(0:Int) }]); let x18:=(wt++[{ op:=(9:Int),power:=(0:Int) }]); let x20:=(IntKind.wrap .i64 x1); let x21:Tree:=(.ret (.tup [.i pos,.p (.bool false)]) x6); .ite (pos==ab s) x21 (.need ((0:Int)≤pos∧pos<ab s) (.need (s.length≤1048576∧(0:Int)≤pos∧pos≤ab s) (.need ((((13,50,true,eU true (decide x22) none).2).2).2→(0:Int)≤IntKind.wrap .i64 x7∧IntKind.wrap .i64 x7<ab s) (.ite (x4==45) (.need (room (List.length x15) 16) (.ret (.tup [.i (-1:Int),.p (.bool false)]) [.cells [.pd (.str s),.i x9,.own 1,.own 3] 209,.own 92 .cell out,.dead,.own 238 .wait x15])) (.ite (x4==33) (.need (room (List.length x16) 16) (.ret (.tup [.i (-1:Int),.p (.bool false)]) [.cells [.pd (.str s),.i x9,.own 1,.own 3] 209,.own 92 .cell out,.dead,.own 238 .wait x16])) (.ite (x4==40) (.need (room (List.length x17) 16) (.ret (.tup [.i (-1:Int),.p (.bool false)]) [.cells [.pd (.str s),.i x9,.own 1,.own 3] 209,.own 92 .cell out,.dead,.own 238 .wait x17])) (.ite (decide (x4≥48)&&decide (x4≤57)) (.need (s.length≤1048576∧room (out.length+1) 32∧(0:Int)≤pos∧pos<ab s∧isD x19=true) (.ite (!decide (Rd.bad x3<(0:Int))) (.ret (.tup [.i (Rd.pos x3),.p (.bool false)]) x8) (.ret (.tup [.i (-1:Int),.p (.bool true)]) x8))) (.ite (ay s pos==[114,101]&&x2) (.need (room (List.length x18) 16) (.ret (.tup [.i (-1:Int),.p (.bool false)]) [.cells [.pd (.str s),.i x5,.own 1,.own 3] 209,.own 92 .cell out,.dead,.own 238 .wait x18])) (.ite (ay s pos==[105,109]&&x2) (.need (room (List.length x14) 16) (.ret (.tup [.i (-1:Int),.p (.bool false)]) [.cells [.pd (.str s),.i x5,.own 1,.own 3] 209,.own 92 .cell out,.dead,.own 238 .wait x14])) (.ite (ay s pos==[105,110]&&x2) (.need (s.length≤1048576∧(0:Int)≤IntKind.wrap .i64 (pos+(3:Int))∧IntKind.wrap .i64 (pos+(3:Int))≤ab s) (.ite (!aC (ay s x5)) (.ret (.tup [.i x5,.p (.bool false)]) x6) (.need ((((10,230,false,eU false (IntKind.wrap .i64 x1==ab s) none).2).2).2→(0:Int)≤IntKind.wrap .i64 x1∧IntKind.wrap .i64 x1<ab s) (.ite (IntKind.wrap .i64 x1==ab s||(↑((List.getD s (x20.toNat) (0:UInt8)).toNat):Int) != 41) (.ret (.tup [.i x20,.p (.bool false)]) [.cells [.pd (.str s),.i x20,.own 1,.own 2] 209,.own 92 .cell out,.own 238 .wait wt]) (.need (room (List.length x11) 32) (.ret (.tup [.i (-1:Int),.p (.bool true)]) [.cells [.pd (.str s),.i (IntKind.wrap .i64 (IntKind.wrap .i64 x1+(1:Int))),.own 3,.own 2] 209,.dead,.own 238 .wait wt,.own 92 .cell x11])))))) (.ite (ay s pos==[116,114,117,101]) (.need (room (List.length x12) 32) (.ret (.tup [.i (-1:Int),.p (.bool true)]) [.cells [.pd (.str s),.i (IntKind.wrap .i64 (pos+(4:Int))),.own 3,.own 2] 209,.dead,.own 238 .wait wt,.own 92 .cell x12])) (.ite (ay s pos==[102,97,108,115,101]) (.need (room (List.length x13) 32) (.ret (.tup [.i (-1:Int),.p (.bool true)]) [.cells [.pd (.str s),.i (IntKind.wrap .i64 (pos+(5:Int))),.own 3,.own 2] 209,.dead,.own 238 .wait wt,.own 92 .cell x13])) (.ite (aC (ay s pos)) (.need (room (List.length x10) 32) (.ret (.tup [.i (-1:Int),.p (.bool true)]) [.cells [.pd (.str s),.i (IntKind.wrap .i64 x7),.own 3,.own 2] 209,.dead,.own 238 .wait wt,.own 92 .cell x10])) x21)))))))))))))) ?_
 conv=>zeta
 have hw:=jk s h0 h1
 rw [bG (n:=pos+ab (ay s pos)) (by omega) (by omega),bG (n:=pos+1) (by omega) (by omega),bG (n:=pos+3) (by omega) (by omega),bG (n:=pos+4) (by omega) (by omega),bG (n:=pos+5) (by omega) (by omega)]
 have hrw:∀ x:Wait,room (wt++[x]).length 16:=fun x=>vH (by rw [aj]; simp only [ai,al]; omega)
 have hrc:∀ x:Cell,room (out++[x]).length 32:=fun x=>fD (by rw [aj]; simp only [ai,al]; omega)
 have hrev:∀ x:Wait,(x::wt.reverse).reverse=wt++[x]:=fun x=>by rw [eD,bH]
 have hfinal:∀ {o:Mc×Int×Bool},aR s ⟨pos,out,wt.reverse⟩=o→∀ {c:List Chunk},(McQ s (.tup [.i o.2.1,.b o.2.2]) o.1.pos o.1.out o.1.wt.reverse) (.tup [.i o.2.1,.b o.2.2]) c→(McQ s (.tup [.i (aR s ⟨pos,out,wt.reverse⟩).2.1,.b (aR s ⟨pos,out,wt.reverse⟩).2.2]) (aR s ⟨pos,out,wt.reverse⟩).1.pos (aR s ⟨pos,out,wt.reverse⟩).1.out (aR s ⟨pos,out,wt.reverse⟩).1.wt.reverse) (.tup [.i o.2.1,.b o.2.2]) c:=by
  intro o e c h; rw [e]; exact h
 refine ⟨fun hf=>?_,fun hnf=>?_⟩
 · have e:pos=ab s:=eq_of_beq hf
   refine hfinal (BZ (m:=⟨pos,out,wt.reverse⟩) (show b8 s pos=_ by unfold b8; rw [if_pos e])) (McQ.a ?_)
   show mkA s pos out wt=mkA s pos out wt.reverse.reverse
   rw [bH]
 have hlt:pos<ab s:=by have:=ne_of_beq_false hnf; omega
 refine ⟨⟨h0,hlt⟩,⟨hs,h0,h1⟩,fun h=>⟨by omega,of_decide_eq_true h⟩,fun h45=>⟨hrw _,?_⟩,fun n45=>⟨fun h33=>⟨hrw _,?_⟩,fun n33=>⟨fun h40=>⟨hrw _,?_⟩,fun n40=>⟨fun hd=>?_,fun nd=>?_⟩⟩⟩⟩
 · have e:bD s pos=45:=eq_of_beq h45
   refine hfinal (uz (m:=⟨pos,out,wt.reverse⟩) (op:=7) (show b8 s pos=_ by unfold b8; rw [if_neg (show ¬pos=ab s by omega),if_pos e])) (McQ.d ?_)
   show mkD s (pos+1) out _=mkD s (pos+1) out (⟨7,6⟩::wt.reverse).reverse
   rw [hrev]
 all_goals have m45:¬bD s pos=45:=ne_of_beq_false n45
 · have e:bD s pos=33:=eq_of_beq h33
   refine hfinal (uz (m:=⟨pos,out,wt.reverse⟩) (op:=8) (show b8 s pos=_ by unfold b8; rw [if_neg (show ¬pos=ab s by omega),if_neg m45,if_pos e])) (McQ.d ?_)
   show mkD s (pos+1) out _=mkD s (pos+1) out (⟨8,6⟩::wt.reverse).reverse
   rw [hrev]
 all_goals have m33:¬bD s pos=33:=ne_of_beq_false n33
 · have e:bD s pos=40:=eq_of_beq h40
   have hnd:¬isD (s.getD pos.toNat 0)=true:=by
    intro hx
    simp only [isD,af,decide_eq_true_eq] at hx
    unfold bD at e; omega
   refine hfinal (BN (m:=⟨pos,out,wt.reverse⟩) (show b8 s pos=_ by unfold b8; rw [if_neg (show ¬pos=ab s by omega),if_neg m45,if_neg m33,if_neg hnd,if_pos e])) (McQ.d ?_)
   show mkD s (pos+1) out _=mkD s (pos+1) out (⟨0,0⟩::wt.reverse).reverse
   rw [hrev]
 all_goals have m40:¬bD s pos=40:=ne_of_beq_false n40
 · have hd':isD (s.getD pos.toNat 0)=true:=by
    simp only [af,decide_eq_true_eq] at hd
    simp only [isD,af,decide_eq_true_eq]; omega
   have hl:c6 s ⟨pos,out, -1⟩=bU s ⟨pos,out, -1⟩:=by unfold c6; rw [if_pos hd']
   have hh:=Et hlt hd'
   have ho:=rC (s:=s) (m:=⟨pos,out,wt.reverse⟩) hh
   rw [hl] at ho
   have hfp:gb s pos=pos:=by unfold gb; rw [if_pos hd']
   refine ⟨⟨hs,fD (by omega),h0,hlt,hd'⟩,fun hb=>?_,fun hb=>?_⟩
   · have hb':¬(bU s ⟨pos,out, -1⟩).bad<0:=by simpa using hb
     rw [if_neg hb',hfp] at ho
     have hn:bU s ⟨pos,out, -1⟩=⟨pos,out,pos⟩:=by
      cases hx:((aQ (cL s pos)).2 != 0||decide (bQ (eZ s pos)<0)) with
      | true=>exact jt (r:=⟨pos,out, -1⟩) hx
      | false=>exact absurd (by rw [jv (r:=⟨pos,out, -1⟩) hx]; show (-1:Int)<0; omega) hb'
     rw [hn] at ho ⊢
     refine hfinal ho (McQ.b ?_)
     show mkB s pos out wt=mkB s pos out wt.reverse.reverse
     rw [bH]
   · have hb':(bU s ⟨pos,out, -1⟩).bad<0:=by simpa using hb
     rw [if_pos hb'] at ho
     refine hfinal ho (McQ.b ?_)
     show mkB s _ _ wt=mkB s _ _ wt.reverse.reverse
     rw [bH]
 · have hnd:isD (s.getD pos.toNat 0)=false:=by
    cases hx:isD (s.getD pos.toNat 0) with
    | false=>rfl
    | true =>
      exfalso
      simp only [isD,af,decide_eq_true_eq] at hx
      rw [decide_eq_true (show ((s.getD pos.toNat 0).toNat:Int)≥48 by omega),decide_eq_true hx.2] at nd
      cases nd
   have hcb:(decide (pos+ab (ay s pos)<ab s)&&(((s.getD (pos+ab (ay s pos)).toNat 0).toNat:Int)==40))=eh s pos:=rfl
   rw [hcb]
   have hhead:b8 s pos=if ay s pos=reS∧eh s pos=true then .call 9 else if ay s pos=imS∧eh s pos=true then .call 10 else .leaf:=by
    unfold b8; rw [if_neg (by omega),if_neg m45,if_neg m33,if_neg (by rw [hnd]; simp),if_neg m40]
   have hands:∀ w:Str,(ay s pos==w&&eh s pos)=true↔ay s pos=w∧eh s pos=true:=fun w=>by rw [af,beq_iff_eq]
   have handf:∀ w:Str,(ay s pos==w&&eh s pos)=false→¬(ay s pos=w∧eh s pos=true):=fun w h hx=>by rw [(hands w).2 hx] at h; cases h
   refine ⟨fun hre=>⟨hrw _,?_⟩,fun nre=>⟨fun him=>⟨hrw _,?_⟩,fun nim=>?_⟩⟩
   · have hx:ay s pos=reS∧eh s pos=true:=(hands _).1 hre
     rw [if_pos hx] at hhead
     refine hfinal (rK (m:=⟨pos,out,wt.reverse⟩) hhead) (McQ.d ?_)
     show mkD s (pos+3) out _=mkD s (pos+3) out (⟨9,0⟩::wt.reverse).reverse
     rw [hrev]
   · have hx:ay s pos=imS∧eh s pos=true:=(hands _).1 him
     rw [if_neg (handf reS nre),if_pos hx] at hhead
     refine hfinal (rK (m:=⟨pos,out,wt.reverse⟩) hhead) (McQ.d ?_)
     show mkD s (pos+3) out _=mkD s (pos+3) out (⟨10,0⟩::wt.reverse).reverse
     rw [hrev]
   rw [if_neg (handf reS nre),if_neg (handf imS nim)] at hhead
   have hlw:=Fc (s:=s) (r:=⟨pos,out, -1⟩) hnd
   simp only at hlw
   refine ⟨fun hin=>?_,fun nin=>⟨fun htr=>⟨hrc _,?_⟩,fun ntr=>⟨fun hfa=>⟨hrc _,?_⟩,fun nfa=>⟨fun hnm=>⟨hrc _,?_⟩,fun nnm=>?_⟩⟩⟩⟩
   · have hx:ay s pos=inS∧eh s pos=true:=(hands _).1 hin
     have hc:=hx.2
     have e2:ab inS=2:=by decide
     simp only [eh,hx.1,e2,af,decide_eq_true_eq] at hc
     have hw3:=jk s (k:=pos+3) (by omega) (by omega)
     have hw5:ay s pos≠ei∧ay s pos≠fF:=by rw [hx.1]; decide
     rw [if_neg hw5.1,if_neg hw5.2,if_pos hx] at hlw
     rw [bG (n:=3+ab (ay s (pos+3))) (by omega) (by omega),bG (n:=pos+(3+ab (ay s (pos+3)))) (by omega) (by omega),bG (n:=pos+(3+ab (ay s (pos+3)))+1) (by omega) (by omega)]
     have hassoc:pos+(3+ab (ay s (pos+3)))=pos+3+ab (ay s (pos+3)):=by omega
     rw [hassoc]
     refine ⟨⟨hs,by omega,by omega⟩,fun hbn=>?_,fun hgn=>?_⟩
     · have hbn':aC (ay s (pos+3))=false:=by simpa using hbn
       have hir:inR s ⟨pos,out, -1⟩=⟨pos+3,out,pos+3⟩:=by unfold inR; rw [if_pos hbn']; rfl
       have hfp:gb s pos=pos:=by
        unfold gb
        rw [if_neg (by rw [hnd]; simp),if_neg (fun h=>by rw [hbn'] at h; exact absurd h.2 (by simp))]
       have hol:=qi (s:=s) (m:=⟨pos,out,wt.reverse⟩) hhead (hlw.trans hir) (show 0≤pos+3 by omega) hfp
       refine hfinal hol (McQ.a ?_)
       show mkA s pos out wt=mkA s pos out wt.reverse.reverse
       rw [bH]
     · have hgn':aC (ay s (pos+3))=true:=by simpa using hgn
       have hfp:gb s pos=pos+3+ab (ay s (pos+3)):=by
        unfold gb
        rw [if_neg (by rw [hnd]; simp),if_pos ⟨hx,hgn'⟩]
       have hir:inR s ⟨pos,out, -1⟩=(bx s ⟨pos+3+ab (ay s (pos+3)),out, -1⟩).emit ⟨6,0,ay s (pos+3)⟩:=by unfold inR; rw [if_neg (by rw [hgn']; simp)]; rfl
       refine ⟨fun h=>?_,fun hc=>?_,fun hc=>⟨hrc _,?_⟩⟩
       · simp only [eU] at h
         have:=ne_of_beq_false h; omega
       · have hc':pos+3+ab (ay s (pos+3))=ab s∨bD s (pos+3+ab (ay s (pos+3)))≠41:=by
          simp only [aA,beq_iff_eq,bne_iff_ne] at hc; exact hc
         have hcl:bx s ⟨pos+3+ab (ay s (pos+3)),out, -1⟩=⟨pos+3+ab (ay s (pos+3))+1,out,pos+3+ab (ay s (pos+3))⟩:=by
          unfold bx; rw [if_pos ⟨by show (-1:Int)<0; omega,hc'⟩]; rfl
         rw [hcl] at hir
         have hol:=qi (s:=s) (m:=⟨pos,out,wt.reverse⟩) hhead (hlw.trans hir) (show 0≤pos+3+ab (ay s (pos+3)) by omega) hfp
         refine hfinal hol (McQ.a ?_)
         show mkA s _ out wt=mkA s _ out wt.reverse.reverse
         rw [bH]
       · have hc':¬(pos+3+ab (ay s (pos+3))=ab s∨bD s (pos+3+ab (ay s (pos+3)))≠41):=by
          intro hh
          have:(pos+3+ab (ay s (pos+3))==ab s||(((s.getD (pos+3+ab (ay s (pos+3))).toNat 0).toNat:Int) != 41))=true:=by
           simp only [aA,beq_iff_eq,bne_iff_ne]; exact hh
          rw [this] at hc; cases hc
         have hcl:bx s ⟨pos+3+ab (ay s (pos+3)),out, -1⟩=⟨pos+3+ab (ay s (pos+3))+1,out, -1⟩:=by
          unfold bx; rw [if_neg (fun h=>hc' h.2)]; rfl
         rw [hcl] at hir
         have hol:=o2 (s:=s) (m:=⟨pos,out,wt.reverse⟩) hhead (hlw.trans hir) (show (-1:Int)<0 by omega)
         refine hfinal hol (McQ.c ?_)
         show mkC s _ _ wt=mkC s _ _ wt.reverse.reverse
         rw [bH] <;> rfl
   · have hx:ay s pos=ei:=eq_of_beq htr
     rw [if_pos hx] at hlw
     have hol:=o2 (s:=s) (m:=⟨pos,out,wt.reverse⟩) hhead hlw (show (-1:Int)<0 by omega)
     refine hfinal hol (McQ.c ?_)
     show mkC s _ _ wt=mkC s _ _ wt.reverse.reverse
     rw [bH] <;> rfl
   all_goals have mtr:ay s pos≠ei:=ne_of_beq_false ntr
   · have hx:ay s pos=fF:=eq_of_beq hfa
     rw [if_neg mtr,if_pos hx] at hlw
     have hol:=o2 (s:=s) (m:=⟨pos,out,wt.reverse⟩) hhead hlw (show (-1:Int)<0 by omega)
     refine hfinal hol (McQ.c ?_)
     show mkC s _ _ wt=mkC s _ _ wt.reverse.reverse
     rw [bH] <;> rfl
   all_goals have mfa:ay s pos≠fF:=ne_of_beq_false nfa
   · rw [if_neg mtr,if_neg mfa,if_neg (handf inS nin),if_pos hnm] at hlw
     have hol:=o2 (s:=s) (m:=⟨pos,out,wt.reverse⟩) hhead hlw (show (-1:Int)<0 by omega)
     refine hfinal hol (McQ.c ?_)
     show mkC s _ _ wt=mkC s _ _ wt.reverse.reverse
     rw [bH] <;> rfl
   · have hnn:¬aC (ay s pos)=true:=by rw [nnm]; simp
     rw [if_neg mtr,if_neg mfa,if_neg (handf inS nin),if_neg hnn] at hlw
     have hwr:((⟨pos,out, -1⟩:Rd).wrong pos)=⟨pos,out,pos⟩:=rfl
     have hfp:gb s pos=pos:=by
      unfold gb
      rw [if_neg (by rw [hnd]; simp),if_neg (fun h=>handf inS nin h.1)]
     have hol:=qi (s:=s) (m:=⟨pos,out,wt.reverse⟩) hhead (hlw.trans hwr) (show 0≤pos by omega) hfp
     refine hfinal hol (McQ.a ?_)
     show mkA s pos out wt=mkA s pos out wt.reverse.reverse
     rw [bH]
end Go.Proofs.YtpfidgnkokidoaaGreatDoor
