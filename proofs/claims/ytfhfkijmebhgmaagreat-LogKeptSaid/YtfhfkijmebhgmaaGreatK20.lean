/- Texts of the claim, joined. -/
import Derived.Test.YtfhfkijmebhgmaaGreatK19
set_option maxHeartbeats 20000000
set_option maxRecDepth 100000
namespace Wh
open Go Go.RowKit Go.Shelf Go.Proofs Tryz
attribute [local go_sem] aT jW jm kC
theorem jjM(w:World)(o:Int)(p:dA)(s:aJ)(Ab:Option Addr)(cb:Nat)(As:Option Addr)(cs:Nat)(A0:Option Addr)(c0:Nat)(A1:Option Addr)(c1:Nat)(A2:Option Addr)(c2:Nat)(A3:Option Addr)(c3:Nat)(A4:Option Addr)(c4:Nat)(A5:Option Addr)(c5:Nat)(A6:Option Addr)(c6:Nat):
  ∃W0:World,(((w.alloc (.cells #[.slice Ab p.bQ.length cb,.slice As p.aP.length cs] 25)).alloc (.cells #[.slice A0 s.on.length c0,.slice A1 s.ak.length c1,.slice A2 s.aA.length c2,.slice A3 s.aF.length c3,.slice A4 s.gY.length c4,.slice A5 s.O.length c5,.slice A6 s.bg.length c6] 31)).alloc (.cells #[.int .i64 o] 3)).alloc (.cells #[.slice none 0 0,.slice none 0 0,.slice none 0 0,.slice none 0 0,.slice none 0 0,.slice none 0 0,.slice none 0 0] 31)=W0/\Below w.heap.size w W0/\w.heap.size+1<W0.heap.size/\w.heap.size<W0.heap.size/\Hid (W0.heap.size=w.heap.size+1+1+1+1)/\
   Hid (∀W,Below W0.heap.size W0 W->(W.cell? ⟨w.heap.size,0,none⟩=some (.slice Ab p.bQ.length cb)/\W.cell? ⟨w.heap.size,1,none⟩=some (.slice As p.aP.length cs))/\W.cell? ⟨w.heap.size+1,0,none⟩=some (.slice A0 s.on.length c0)/\W.cell? ⟨w.heap.size+1,1,none⟩=some (.slice A1 s.ak.length c1)/\W.cell? ⟨w.heap.size+1,2,none⟩=some (.slice A2 s.aA.length c2)/\W.cell? ⟨w.heap.size+1,3,none⟩=some (.slice A3 s.aF.length c3)/\W.cell? ⟨w.heap.size+1,4,none⟩=some (.slice A4 s.gY.length c4)/\W.cell? ⟨w.heap.size+1,5,none⟩=some (.slice A5 s.O.length c5)/\W.cell? ⟨w.heap.size+1,6,none⟩=some (.slice A6 s.bg.length c6)/\w.heap.size+1<W.heap.size/\w.heap.size<W.heap.size)/\
   Hid (∀W,Below W0.heap.size W0 W->W.cell? ⟨w.heap.size+1+1,0,none⟩=some (.int .i64 o)/\w.heap.size+1+1<W.heap.size)/\
   Hid (∀W,Below W0.heap.size W0 W->iV W (w.heap.size+1+1+1) 31 [.slice none 0 0,.slice none 0 0,.slice none 0 0,.slice none 0 0,.slice none 0 0,.slice none 0 0,.slice none 0 0]):=by
 obtain⟨W1,e1,b1,s1,s2,s3,hK⟩:=Eh w p s Ab cb As cs A0 c0 A1 c1 A2 c2 A3 c3 A4 c4 A5 c5 A6 c6;rw[e1];have e3:W1.heap.size=w.heap.size+1+1:=s3;have ha0:Below W1.heap.size W1 (W1.alloc (.cells #[.int .i64 o] 3)):=(aj _ _).alloc (au _) _;have h0:iV (W1.alloc (.cells #[.int .i64 o] 3)) W1.heap.size 3 [.int .i64 o]:=iV.new _ _ _;generalize hW2:W1.alloc (.cells #[.int .i64 o] 3)=W2 at ha0 h0 ⊢
 have e4:W2.heap.size=w.heap.size+1+1+1:=by rw[<- hW2,cO,e3]
 have ha:Below W2.heap.size W2 (W2.alloc (.cells #[.slice none 0 0,.slice none 0 0,.slice none 0 0,.slice none 0 0,.slice none 0 0,.slice none 0 0,.slice none 0 0] 31)):=(aj _ _).alloc (au _) _;have h1:iV (W2.alloc (.cells #[.slice none 0 0,.slice none 0 0,.slice none 0 0,.slice none 0 0,.slice none 0 0,.slice none 0 0,.slice none 0 0] 31)) W2.heap.size 31 [.slice none 0 0,.slice none 0 0,.slice none 0 0,.slice none 0 0,.slice none 0 0,.slice none 0 0,.slice none 0 0]:=iV.new _ _ _;have h2:iV (W2.alloc (.cells #[.slice none 0 0,.slice none 0 0,.slice none 0 0,.slice none 0 0,.slice none 0 0,.slice none 0 0,.slice none 0 0] 31)) W1.heap.size 3 [.int .i64 o]:=h0.below ha h0.lt;have h12:=ha0.trans (ha.mono ha0.size);rw[e3]at h2
 rw[e4]at h1
 refine⟨_,rfl,b1.trans (h12.mono b1.size),by simp[e4]<;>omega,by simp[e4]<;>omega,ah (by simp[e4]),ah λW hW=>?_,ah λW hW=>?_,ah λW hW=>h1.below hW (by simp[e4])⟩
 ·exact uU hK W (h12.trans (hW.mono h12.size))
 ·have h3:=h2.below hW (by simp[e4]<;>omega)
  exact⟨h3.cell rfl,h3.lt⟩
theorem sU{a b:Option Nat}(h:a=none\/a≠b):∀k,a=some k->¬b=some k:=by
 rintro k rfl h2;rcases h with h|h
 ·cases h
 ·exact h h2.symm
theorem dK.Yr{w w':World}{aO:Nat}{V:SV}{s:aJ}(h:dK w aO V s)(hs:Step (λq=>V.aA.ownBlock=some q) w w'){v:Value}{l:List dZ}(hv:Own ig 4 46 w' aO v l):dK w' aO {V with aA:=v} {s with aA:=l}:=
 ⟨h.on.step hs (sU (h.on.apart h.aA (by decide))),h.rlen,λb hb=>(h.row b hb).step hs (sU ((h.row b hb).apart h.aA (by decide))),h.ak.step hs (sU (h.ak.apart h.aA (by decide))),h.llen,λo ho=>(h.aG o ho).step hs (sU ((h.aG o ho).apart h.aA (by decide))),hv,h.aF.step hs (sU (h.aF.apart h.aA (by decide))),h.gY.step hs (sU (h.gY.apart h.aA (by decide))),h.O.step hs (sU (h.O.apart h.aA (by decide))),h.bg.step hs (sU (h.bg.apart h.aA (by decide))),h.apart,h.yS⟩
theorem jlC(x:dZ)(o:Int)(W:World)(B:Nat)(h0:W.cell? ⟨B,0,none⟩=some (.int .i64 o))(hB:B<W.heap.size):
  Calls prog 100 (#[um x]++#[.pointer (some ⟨B,0,none⟩)]) W λe W'=>e=.returned (.bool (x.aC==o))/\Below W.heap.size W W':=by
 have hb0:Below W.heap.size W (W.alloc (.cells #[.int .i64 (x).aC,.int .i64 (x).aG,.int .i64 (x).bin,.int .i64 (x).n] 46)):=(aj _ _).alloc (au _) _;change Calls prog 100 #[um x,.pointer (some ⟨B,0,none⟩)] W _;unfold um;go_enter func100,ntmps100
 go_wp2_with fail;go_ret
 exact⟨rfl,hb0⟩
theorem jgs:Enters prog 100:=enters_of func100 (by kernel_rfl) rfl
theorem jgO(w:World)(v vs:Value)(p:dA)(s:aJ)(o:Int)(hp:mW w w.heap.size v p)(hv:lK w w.heap.size vs s):
  Calls prog 47 #[v,vs,.int .i64 o] w (nN (zJ p s o) w):=by
 obtain⟨Ab,cb,As,cs,rfl,hP',hBn,hSz,hlb,hls⟩:=sN hp;obtain⟨A0,c0,A1,c1,A2,c2,A3,c3,A4,c4,A5,c5,A6,c6,rfl,hV,hN,hO,hH,hM,hI,hU,hX,hl0,hl1,hl2,hl3,hl4,hl5,JA⟩:=oW hv;go_enter func47,ntmps47
 go_wp2_with fail;obtain⟨W0,hW0,hb0,lg,uZ,hsE,hK,hJ,hR⟩:=jjM w o p s Ab cb As cs A0 c0 A1 c1 A2 c2 A3 c3 A4 c4 A5 c5 A6 c6;rw[hW0];clear hW0;obtain⟨⟨y0,y1⟩,x0,x1,x2,x3,x4,x5,x6,eP,eU⟩:=hK.O W0 (aj W0.heap.size W0);go_wp2_with fail;clear y0 y1 x0 x1 x2 x3 x4 x5 x6 eP eU;refine(Nz _ _ _ p s (hP'.O _ hb0) (hV.O _ hb0)).mono ?_
 rintro e W1 ⟨rfl,h1⟩;have hB1:=hb0.trans (h1.mono hb0.size);obtain⟨⟨y0,y1⟩,x0,x1,x2,x3,x4,x5,x6,eP,eU⟩:=hK.O W1 (h1);obtain⟨i0,i1⟩:=hJ.O W1 h1;by_cases hc:aQ p s=0
 ·have hc':=ah hc;have hsn:=ah (kM.1 hc).1;have h4:=hsn.O.qH;rw[hc];clear hc;by_cases q0:o<0
  ·have bK:=ah (OI hc'.O (.inl q0));have fH:=hR.O _ h1;go_wp2_with (refine dB (.tmp 6) (.tmp 29) dH dH rfl fH rfl rfl (λw9 dM je=>?_))
   have dN:=Below.gB hB1 je;go_wp2_with fail;exact jo results47 dM rfl rfl (jQ bK.O dN)
  by_cases q1:(s.ak.length:Int)<=o
  ·have bK:=ah (OI hc'.O (.inr q1));have q0':decide (o<0)=false:=by simp;omega
   have fH:=hR.O _ h1;go_wp2_with (refine dB (.tmp 6) (.tmp 29) dH dH rfl fH rfl rfl (λw9 dM je=>?_))
   have dN:=Below.gB hB1 je;go_wp2_with fail;exact jo results47 dM rfl rfl (jQ bK.O dN)
  obtain⟨i,rfl⟩:∃i:Nat,o=i:=⟨o.toNat,by omega⟩
  have hi:i<s.ak.length:=by omega
  have hi':(i:Int)<s.ak.length:=by omega
  have q0':decide ((i:Int)<0)=false:=by simp
  have q1':decide ((s.ak.length:Int)<=i)=false:=by simp;omega
  clear q0 q1;obtain⟨Al,cl,ol,ll,d0,d1,hsl⟩:=(hO.O W1 hB1).aC hi;change W1.cell? _=some (Value.int IntKind.i64 (s.aC i).dW)at d0
  by_cases hk:(s.aC i).dW=2
  ·have bK:=ah (Uj hc'.O hi hk);rw[hk]at d0
   clear hk;have fH:=hR.O _ h1;go_wp2_with (refine dB (.tmp 6) (.tmp 37) dH dH rfl fH rfl rfl (λw9 dM je=>?_))
   have dN:=Below.gB hB1 je;go_wp2_with fail;exact jo results47 dM rfl rfl (jQ bK.O dN)
  ·have bK:=ah (Zc hc'.O hi hk);have hq:((s.aC i).dW==2)=false:=by simpa using hk
   clear hk;go_wp2_with fail;clear y0 y1 x0 x1 x2 x3 x4 x5 x6 eP eU;clear d0 d1 i0 i1 hsl hq;refine(ja1 _ _ p s (hV.O _ hB1) hsn.O).mono ?_
   rintro e W5 ⟨_,rfl,⟨V5,rfl,AY⟩,h5⟩;have pq:=(AY).one;have xw:=vG (W5);go_wp2_with (refine dB (.tmp 9) (.tmp 39) dH V5 rfl xw rfl pq (λw6 lM Ib=>?_);refine aW ?_)
   unfold Hid;have sG:=qX Ib;have vT:=lM.lt;clear pq xw Ib;have hx6:=ah (Bx.of lM (AY.below sG));have h06:=h1.trans ((h5.trans (sG.mono h5.size)).mono h1.size);have hle:w.heap.size<=W1.heap.size:=hB1.size;have hle0:W0.heap.size<=W1.heap.size:=h1.size;have zZ:W1.heap.size<=W5.heap.size:=h5.size;clear lM AY sG h5 vT h1 hB1;generalize W1.heap.size=aO at hx6 hle hle0 zZ
   generalize W5.heap.size=bx at hx6 zZ ⊢
   obtain⟨Ao,co,hvo⟩:=hx6.O.own.EL;have Gp:=ah hvo;obtain⟨Ah,ch,hvh⟩:=hx6.O.own.aA.isSlice;have c2:=hx6.O.cells.2.2.1;rw[hvh]at c2
   have hoh:=hx6.O.own.aA;rw[hvh]at hoh
   have jh7:=ah hvh;have jkR:=ah hoh;clear hvo hvh hoh;go_wp2_with fail;clear c2;refine(Uf w6 aO _ s.aA 100 #[.pointer (some ⟨w.heap.size+1+1,0,none⟩)] (λx=>x.aC==(i:Int)) jgs jkR.O (by have:=su hsn.O.aA;omega) (λk hk W hW=>by
    have h0W:=h06.trans (hW.below (B:=W0.heap.size) (λq hq=>by
     have h9:=jkR.O.size q hq;omega) h06.size)
    obtain⟨j0,j1⟩:=hJ.O W h0W;exact jlC _ _ W _ j0 j1)).mono ?_
   rintro e w7 ⟨v7,rfl,Ia,Ee,jqW⟩;obtain⟨A7,c7,rfl⟩:=Ia.isSlice;have hl7:∃l7,(s.aA.filter λx=>!(x.aC==(i:Int)))=l7:=⟨_,rfl⟩
   obtain⟨l7,hl7⟩:=hl7;rw[hl7]at Ia jqW ⊢
   have jie:Step (λq=>V5.aA.ownBlock=some q) w6 w7:=by rw[jh7.O];exact Ee
   have X6:=hx6.O.own.Yr jie Ia;have hb7:jk w7 bx V5:=jie.blk hx6.O.uK.blk (sU (hx6.O.own.aA.mQ hx6.O.uK.blk (by decide)) _ · rfl)
   have hfl:=ah (show l7=s.aA.filter λh=>decide (h.aC≠(i:Int))by
    rw[<- hl7];congr 1
    funext x
    by_cases hx:x.aC=(i:Int)<;>simp[hx])
   have jf9:l7.length<=1000000:=by
    rw[<- hl7];have:=kY (λx=>!(x.aC==(i:Int))) s.aA
    have:=su hsn.O.aA;omega
   have h07:=ah (h06.trans (Ee.below (B:=W0.heap.size) (λq hq=>by
     have h9:=jkR.O.size q hq;omega) h06.size))
   have jrS:=ah X6;have jrA:=ah hb7;clear Ia jqW Ee jie X6 hb7 hx6 jkR h06 hl7;go_wp2_with (refine Ig rfl (.tmp 44) (.tmp 43) rfl rfl A7 l7.length c7 (V:=V5) (cs:=[]) (b:=bx) (by rw[iJ];exact jrA.O.blk) jrS.O Xp rfl rfl rfl (λw8 KQ AX=>?_);refine aW ?_)
   unfold Hid;have DY:=h07.O.trans (AX.below (B:=W0.heap.size) (λq hq=>by omega) h07.O.size)
   obtain⟨i0,i1⟩:=hJ.O w8 DY;have vP:=ah KQ;obtain⟨V8,hV8⟩:∃V8:SV,{V5 with aA:=.slice A7 l7.length c7}=V8:=⟨_,rfl⟩
   rw[hV8]at vP
   have jqE:V8.ak=.slice Ao s.ak.length co:=by rw[<- hV8];exact Gp.O
   have YT:=ah jqE;clear KQ AX hV8 jrS jrA h07 jqE Gp jh7;obtain⟨go,_,_,eo,-⟩:=vP.O.own.aU (o:=i) hi;rw[YT.O]at eo
   injection eo with eo e2 e3
   subst eo;clear e2 e3;obtain⟨hgo,jgc,z0,z1⟩:=vP.O.own.oP (o:=i) hi YT.O;have c1:=vP.O.cells.2.1;rw[YT.O]at c1
   go_wp2_with (refine F6 rfl (.tmp 51) (.const (.int .i64 2)) rfl rfl (i:=i) (q:=2) vP.O hi YT.O rfl rfl (λw9 uO wJ=>?_);refine aW ?_)
   unfold Hid;have uO:Bx w9 aO bx 31 [] V8 (FN s l7 i 0):=by rw[<- Xl];exact uO
   have h09:=DY.trans (wJ.below (B:=W0.heap.size) (λq hq=>by omega) DY.size)
   have Dj:=ah uO;clear wJ uO z0 z1 c1 vP DY i0 i1;have l13:=hsn.O.tN hi;obtain⟨_,_,z0,z1⟩:=Dj.O.own.oP (o:=i) (by rw[Lm];exact hi) YT.O
   obtain⟨gl,cl,e1,hgl⟩:=Dj.O.own.Dx (o:=i) (by rw[Lm];exact hi) (by rw[EX hi];omega)
   rw[EX hi]at e1
   have e1':=ah e1;rw[e1]at z1
   clear e1 z0;go_wp2_with fail;clear z1;go_loopw[57,11,12] (λj _ _ wr=>∃k:Nat,k<=(s.aC i).aH.length/\j=.int .i64 k/\Bx wr aO bx 31 [] V8 (FN s l7 i k)/\Below W0.heap.size W0 wr) (λj _ _ _=>(s.aC i).aH.length - (RowKit.intOf j).toNat)
   case atStart=>exact⟨0,aK _,rfl,Dj.O,h09⟩
   case round=>
    clear Dj h09;obtain⟨k,hkl,rfl,hx,h0⟩:=hrel;have hx':=ah hx;clear hx;by_cases hkt:k<(s.aC i).aH.length
    ·have hki:(k:Int)<((s.aC i).aH.length:Int):=by omega
     have hon:i<(FN s l7 i k).ak.length:=by rw[Lm];exact hi
     have hkn:k<((FN s l7 i k).aC i).aH.length:=by rw[EX hi];exact hkt
     obtain⟨_,_,_,z1⟩:=hx'.O.own.oP hon YT.O;rw[e1'.O]at z1
     obtain⟨XZ,f0,f1,f2,f3⟩:=hx'.O.own.sV hon hkn e1'.O;rw[MR hi hkt]at f1 f2
     have hlr:=hsn.O.aG hi hkt;have hwr:IntKind.i64.wrap ((s.aG i k).iw - (s.aG i k).oh)=(s.aG i k).iw - (s.aG i k).oh:=by rw[jY];omega
     have Wj:=ah hx'.O.drew;clear f0 f3 hlr;go_wp2_with fail;go_still_tail 12,(by kernel_rfl)
     change wpList _ _ _ _ _ wr.drew;refine AO rfl (.tmp 77) (.tmp 75) rfl rfl (j:=3) (y:={s.aG i k with dP:=(s.aG i k).iw - (s.aG i k).oh}) Wj.O hon hkn e1'.O (by decide) (by rw[MR hi hkt];rfl) rfl rfl (λw9 uO wJ=>?_)
     refine fC ?_
     rw[Xm hi hkt]at uO
     have h09:=h0.drew.trans (wJ.below (B:=W0.heap.size) (λq hq=>by omega) h0.drew.size)
     have Dj:=ah uO;clear wJ uO z1 f1 f2 hx' Wj hon hkn hwr;go_wp2_with fail;go_roundw
     case rel=>exact⟨k+1,by omega,by go_num,Dj.O,h09⟩
     case measure=>simp[RowKit.intOf];omega
    ·obtain rfl:k=(s.aC i).aH.length:=by omega
     have hB0:=hb0.trans (h0.mono hb0.size);have hx2:=ah (show Bx wr aO bx 31 [] V8 (xE s i)by rw[<- Zd,<- hfl.O];exact hx'.O)
     clear hx';have fH:=hR.O _ h0;obtain⟨b0,b1,b2,b3,b4,b5,b6⟩:=jk.cells hx2.O.uK;have lG:=dK.one hx2.O.own;go_wp2_with (refine dB (.tmp 6) (.tmp 79) dH V8 rfl fH rfl lG (λw9 dM je=>?_))
     have wC:=dK.keptBy hx2.O.own je fH (by decide) (by decide) (by decide) (by decide) (by decide) (by decide)
     have dN:=Below.gB hB0 je;clear b0 b1 b2 b3 b4 b5 b6;go_wp2_with fail;exact jo results47 dM rfl rfl (EZ bK.O (wC.from_ hle) dN)
 ·have hne:(aQ p s !=0)=true:=by simpa using hc
  have bK:=ah (Xk (o:=o) hc);clear hc;have fH:=hR.O _ h1;go_wp2_with (refine dB (.tmp 6) (.tmp 18) dH dH rfl fH rfl rfl (λw9 dM je=>?_))
  have dN:=Below.gB hB1 je;go_wp2_with fail;exact jo results47 dM rfl rfl (jQ bK.O dN)
end Wh
namespace Wh
open Go Go.RowKit Go.Shelf Go.Proofs Tryz
attribute [local go_sem] aT jW jm kC
theorem Rh{o:Oper}{ev:Operand->Value}{w:World}{K:Value->World->Prop}(x y:Operand)(ho:o.op=.store 31 x y)(b:Nat)(V V':SV)(E5:jk w b V)(hx:ev x=.pointer (some ⟨b,0,none⟩))(hy:ev y=V'.val)(h1:V'.cells.all (λu=>u.oneCell')=true)
  (h:∀w',jk w' b V'->w.grownBy w' (some b)->K undef w'):iT prog o ev w K:=by
 have hr:=run_storeVar_row (P:=prog) w b 31 31 V.cells.toArray V'.cells.toArray E5 (by kernel_rfl) rfl (by simpa using h1)
 have hk:=h _ (E5.blk.row V'.cells) (yU w b V'.cells.toArray);have hy':ev y=.agg V'.cells.toArray:=hy;unfold iT execOp;simp only[ho,hx,hy',Instr.storeAt,Instr.sureAddr,jg,jw,iC,hr];exact hk
def joF(B:Nat)(k:Nat)(w1 w2:World):Prop:=Below B w1 w2/\(k=0->∀b V,jk w1 b V->jk w2 b V)/\(k=1->∀aO V s,dK w1 aO V s->dK w2 aO V s)
theorem jf1{w1 w2:World}{aO i:Nat}{V:SV}{s:aJ}(ho:dK w1 aO V s)(hi:i<s.ak.length)(hs:Step (λj=>(V.aG i).ownBlock=some j) w1 w2)(hB:aO<=w1.heap.size):joF aO 0 w1 w2:=by
 refine⟨hs.below (λk hk=>((ho.aG i hi).size k hk).1) hB,λ_ b V' hb=>hs.heap hb λhk=>?_,λh=>by cases h⟩
 obtain⟨cur,hc⟩:=(ho.aG i hi).block hk;have h2:w1.heap[b]?=_:=hb;rw[hc]at h2
 injection h2 with h2
 injection h2 with _ h2
 exact absurd h2 (by decide)
theorem Fb{n lo hi:Int}{b:Bool}(h:cZ n lo hi=b)(w:World):Calls prog 38 #[.int .i64 n,.int .i64 lo,.int .i64 hi] w λe w'=>e=.returned (.bool b)/\w=w':=by
 have:=oH n lo hi w;rwa [h]at this
end Wh
namespace Wh
open Go Go.RowKit Go.Shelf Go.Proofs Tryz
attribute [local go_sem] aT jW jm kC
def rZ(s:aJ)(c g:Nat)(n:Int):aJ:={s with on:=setCell s.on c g (cell s.on c g - n)}
def pk2(s:aJ)(c g:Nat)(n:Int):aJ:={rZ s c g n with O:=s.O.set g (bI s.O g+n)}
theorem jhC{s:aJ}{i j c g:Nat}{n:Int}(hg:(s.aG i j).dh.toNat=g):({pk2 s c g n with aA:=jH s.aA ⟨i,j,c,0⟩}:aJ)=preS s i j c n:=by subst hg;rfl
theorem jkl(w:World)(v vs:Value)(p:dA)(s:aJ)(o k b n:Int)(hp:mW w w.heap.size v p)(hv:lK w w.heap.size vs s):
  Calls prog 55 #[v,vs,.int .i64 o,.int .i64 k,.int .i64 b,.int .i64 n] w (nN (pick p s o k b n) w):=by
 obtain⟨Ab,cb,As,cs,rfl,hP',hBn,hSz,hlb,hls⟩:=sN hp;obtain⟨A0,c0,A1,c1,A2,c2,A3,c3,A4,c4,A5,c5,A6,c6,rfl,hV,hN,hO,hH,hM,hI,hU,hX,hl0,hl1,hl2,hl3,hl4,hl5,JA⟩:=oW hv;go_enter func55,ntmps55
 go_wp2_with fail;obtain⟨W0,hW0,hb0,lg,uZ,hsE,hK,hR⟩:=yD w p s Ab cb As cs A0 c0 A1 c1 A2 c2 A3 c3 A4 c4 A5 c5 A6 c6;rw[hW0];clear hW0;obtain⟨⟨y0,y1⟩,x0,x1,x2,x3,x4,x5,x6,eP,eU⟩:=hK.O W0 (aj W0.heap.size W0);go_wp2_with fail;clear y0 y1 x0 x1 x2 x3 x4 x5 x6 eP eU;refine(Ag _ _ _ p s (hP'.O _ hb0) (hV.O _ hb0)).mono ?_
 rintro e W1 ⟨rfl,h1⟩;have hB1:=hb0.trans (h1.mono hb0.size);obtain⟨⟨y0,y1⟩,x0,x1,x2,x3,x4,x5,x6,eP,eU⟩:=hK.O W1 (h1);by_cases hc:aQ p s=0
 ·have hc':=ah hc;have hsn:=ah (kM.1 hc).1;rw[hc];clear hc;go_wp2_with fail;refine(Zy _ _ s.aA o k b (hH.O _ hB1)).mono ?_
  rintro e w' ⟨rfl,rfl⟩;by_cases hk0:bW s.aA o k b=0
  ·have bK:=ah (YC (n:=n) hc'.O hk0);rw[hk0];clear hk0;have fH:=hR.O _ h1;go_wp2_with (refine dB (.tmp 12) (.tmp 36) dH dH rfl fH rfl rfl (λw9 dM je=>?_))
   have dN:=Below.gB hB1 je;go_wp2_with fail;exact jo results55 dM rfl rfl (jQ bK.O dN)
  have hkq:(bW s.aA o k b==0)=false:=by simpa using hk0
  cases g1:cZ n 0 (bW s.aA o k b)
  ·have bK:=ah (Qm hc'.O hk0 (by have:=nU.1 g1;omega))
   clear hk0;go_wp2_with fail;refine(Fb g1 _).mono ?_
   rintro e w' ⟨rfl,rfl⟩;clear g1;have fH:=hR.O _ h1;go_wp2_with (refine dB (.tmp 12) (.tmp 41) dH dH rfl fH rfl rfl (λw9 dM je=>?_))
   have dN:=Below.gB hB1 je;go_wp2_with fail;exact jo results55 dM rfl rfl (jQ bK.O dN)
  have g1':=dV.1 g1;obtain⟨i,j,c,rfl,rfl,rfl,hi,hj,hcb,hh1,hh2,hpk⟩:=jeU hc'.O hk0 g1';have hpk':=ah hpk;have hg0:=(hsn.O.aG hi hj).1;obtain⟨g,hg⟩:∃g:Nat,(s.aG i j).dh=(g:Int):=⟨(s.aG i j).dh.toNat,by omega⟩
  have hgt:(s.aG i j).dh.toNat=g:=by omega
  have rG:g<p.aP.length:=by omega
  have hgo:g<s.O.length:=by rw[hsn.O.O.1];exact rG
  have jtJ:(g:Int)<(s.O.length:Int):=by omega
  have o1:=hsn.O.O.2 rG;have hwo:IntKind.i64.wrap (bI s.O g+n)=bI s.O g+n:=aN _ (by omega)
  have hi':(i:Int)<s.ak.length:=by omega
  have hj':(j:Int)<((s.aC i).aH.length:Int):=by omega
  obtain⟨Al,cl,ol,ll,d0,d1,hsl⟩:=(hO.O W1 hB1).aC hi;obtain⟨ok2,l2,e0,e1,e2,e3⟩:=hsl.at_.aG hj;change W1.cell? _=some (Value.int .i64 (s.aG i j).dh)at e0
  change W1.cell? _=some (Value.slice Al (s.aC i).aH.length cl)at d1
  rw[hg]at e0
  obtain⟨oi,li,ri⟩:=(hU.O W1 hB1).at_.int (i:=g) hgo;rw[hgt]at hpk'
  clear hk0 hpk d0 e1 e2 e3;by_cases hm:1048576<bI s.O g+n
  ·have bK:=ah (show pick p s i j c n=(jD,2)by rw[hpk'.O,aB hm])
   go_wp2_with fail;refine(Fb g1 _).mono ?_
   rintro e w' ⟨rfl,rfl⟩;clear g1 g1';have fH:=hR.O _ h1;go_wp2_with (refine dB (.tmp 12) (.tmp 60) dH dH rfl fH rfl rfl (λw9 dM je=>?_))
   have dN:=Below.gB hB1 je;go_wp2_with fail;exact jo results55 dM rfl rfl (jQ bK.O dN)
  have bK:=ah (show pick p s i j c n=(Ai p s i j c n,0)by rw[hpk'.O,ay hm])
  have hF:=ah (show FT p s i j c n from⟨hi,hj,hcb,hh1,g1'.1,g1'.2,by rw[hgt];omega⟩)
  go_wp2_with fail;refine(Fb g1 _).mono ?_
  rintro e w' ⟨rfl,rfl⟩;clear g1;go_wp2_with fail;clear y0 y1 x0 x1 x2 x3 x4 x5 x6 eP eU;clear d1 e0 hsl oi li ri ok2 l2 ol ll hkq hpk' hm;refine(EI _ _ p s (hV.O _ hB1) hsn.O).mono ?_
  rintro e W5 ⟨_,rfl,⟨V5,rfl,AY⟩,h5⟩;have pq:=(AY).one;have xw:=vG (W5);go_wp2_with (refine dB (.tmp 17) (.tmp 62) dH V5 rfl xw rfl pq (λw6 lM Ib=>?_);refine aW ?_)
  unfold Hid;have sG:=qX Ib;have vT:=lM.lt;clear pq xw Ib;have hx6:=ah (Bx.of lM (AY.below sG));have h06:=h1.trans ((h5.trans (sG.mono h5.size)).mono h1.size);have hle:w.heap.size<=W1.heap.size:=hB1.size;have hle0:W0.heap.size<=W1.heap.size:=h1.size;have zZ:W1.heap.size<=W5.heap.size:=h5.size;clear lM AY sG h5 vT h1 hB1;generalize W1.heap.size=aO at hx6 hle hle0 zZ
  generalize W5.heap.size=bx at hx6 zZ ⊢
  have hco:c<s.on.length:=by rw[hsn.O.tY];exact hcb
  have hci:(c:Int)<(s.on.length:Int):=by omega
  have hgr:g<(fO s.on c).length:=by rw[hsn.O.rowLen hcb];exact rG
  have jk0:(g:Int)<((fO s.on c).length:Int):=by omega
  have jtT:=hsn.O.cell hcb rG;have hw1:IntKind.i64.wrap (cell s.on c g - n)=cell s.on c g - n:=aN _ (by omega)
  obtain⟨Ic,con,PE,gr,cr,cur,Ot,Wy,Oa,r0,er,Wx,hbr,rc⟩:=hx6.O.own.Py hco hgr;obtain⟨c0,c1,c2,c3,c4,c5,c6⟩:=hx6.O.cells;rw[Ot]at c0
  have er':=ah er;clear Ot er Oa hbr;go_wp2_with fail;go_still_tail 17,(by kernel_rfl)
  change wpList _ _ _ _ _ w6.drew;refine GU rfl (.tmp 79) (.tmp 78) rfl rfl (i:=c) (g:=g) (q:=cell s.on c g - n) hx6.O.drew hco hgr er'.O rfl rfl (λw7 hx7 Ee=>?_)
  refine fC ?_
  have h07:=h06.drew.trans (Ee.below (B:=W0.heap.size) (λq hq=>by omega) h06.drew.size)
  have zx:=ah (show Bx w7 aO bx 31 [] V5 (rZ s c g n)from hx7)
  clear hx7 Ee c0 c1 c2 c3 c4 c5 c6 r0 rc hw1 hx6 h06 er';obtain⟨gu,cu,juJ,eu,hgu,hbu,ru⟩:=dK.BF zx.O.own.O (g:=g) hgo;change w7.cell? _=some (.int .i64 (bI s.O g))at ru
  change V5.O=.slice _ s.O.length _ at eu
  obtain⟨c0,c1,c2,c3,c4,c5,c6⟩:=zx.O.cells;rw[eu]at c5
  have eu':=ah eu;clear eu hbu;go_wp2_with fail;go_still_tail 11,(by kernel_rfl)
  change wpList _ _ _ _ _ w7.drew;refine Yi rfl (.tmp 90) (.tmp 89) rfl rfl (g:=g) (q:=bI s.O g+n) zx.O.drew hgo eu'.O rfl rfl (λw8 KQ AX=>?_)
  refine fC ?_
  have DY:=h07.drew.trans (AX.below (B:=W0.heap.size) (λq hq=>by omega) h07.drew.size)
  have vP:=ah (show Bx w8 aO bx 31 [] V5 (pk2 s c g n)from KQ)
  clear KQ AX c0 c1 c2 c3 c4 c5 c6 ru zx h07 eu';have kD:=su hsn.O.aA;have hs8:=ah (vP.O.own.aA.sl (by change s.aA.length<=_;omega))
  obtain⟨c0,c1,c2,c3,c4,c5,c6⟩:=vP.O.cells;go_wp2_with fail;clear c0 c1 c2 c3 c4 c5 c6;refine(jhj _ _ s.aA i j c 0 hs8.O hsn.O.aA (Jg hsn.O hi hj hcb)).mono ?_
  rintro e W9 ⟨u,rfl,hu,h9⟩;obtain⟨A7,c7,rfl⟩:=hu.isSlice;have jed:aO<=w8.heap.size:=aY zZ (jh vP.O.lt);have hu9:=ah (hu.from_ jed);have uO:=ah (vP.O.below h9);have h09:=DY.trans (h9.mono DY.size);clear hu h9 vP DY hs8;go_wp2_with (refine GV rfl (.tmp 97) (.tmp 96) rfl rfl A7 _ c7 _ uO.O rfl rfl hu9.O (λw10 Dz xu=>?_);refine aW ?_)
  unfold Hid;have h010:=h09.trans (xu.below (B:=W0.heap.size) (λq hq=>by omega) h09.size)
  have sK:=ah (show Bx w10 aO bx 31 [] {V5 with aA:=.slice A7 (jH s.aA ⟨i,j,c,0⟩).length c7} (preS s i j c n)by rw[<- jhC hgt];exact Dz)
  clear Dz xu uO hu9 h09;generalize ({V5 with aA:=.slice A7 (jH s.aA ⟨i,j,c,0⟩).length c7}:SV)=V9 at sK
  obtain⟨go,co,jjB,eo,jtK,Ob,z0,z1⟩:=sK.O.own.aU (o:=i) hi;obtain⟨gl,cl,curl,e1,hgl,Cc,f0,f1,f2,f3⟩:=sK.O.own.gK (o:=i) (k:=j) hi hj;obtain⟨c0,c1,c2,c3,c4,c5,c6⟩:=sK.O.cells;change w10.cell? _=some (.int .i64 (s.aG i j).dh)at f0
  change w10.cell? _=some (.int .i64 (s.aG i j).iw)at f1
  change w10.cell? _=some (.int .i64 (s.aG i j).oh)at f2
  change w10.cell? _=some (.int .i64 (s.aG i j).dP)at f3
  change V9.ak=.slice _ s.ak.length _ at eo
  change V9.aG i=.slice _ (s.aC i).aH.length _ at e1
  rw[eo]at c1
  rw[e1]at z1
  have e1':=ah e1;have XZ:=Cc.lt;have jgc:=Ob.lt;have jb2:bx<w10.heap.size:=sK.O.lt;obtain⟨gd,wt,gt,bk,hxl⟩:∃gd wt gt bk,s.aG i j=⟨gd,wt,gt,bk⟩:=⟨_,_,_,_,rfl⟩;have hln:=ah (hsn.O.aG hi hj).2;rw[hxl]at f0 f1 f2 f3 hg
  have ZX:=ah hxl;simp only at hg f0 f1 f2 f3
  subst hg;have jkX:(1<=wt/\wt<=200)/\(0<=gt/\gt<=wt)/\0<=bk/\bk<=wt:=by have:=hln.O;rwa [hxl]at this
  have hbl:=ah (iV.new w10 44 #[.int .i64 g,.int .i64 wt,.int .i64 gt,.int .i64 bk]);have hxa:=ah (sK.O.below ((aj _ w10).alloc (au _) (.cells #[.int .i64 g,.int .i64 wt,.int .i64 gt,.int .i64 bk] 44)));have h0a:=h010.alloc h010.size (.cells #[.int .i64 g,.int .i64 wt,.int .i64 gt,.int .i64 bk] 44);have eo':=ah eo;clear e1 eo Cc Ob hxl hln sK h010;go_wp2_with fail;clear c0 c1 c2 c3 c4 c5 c6 z0 z1 f0 f1 f2 f3 XZ jgc jb2;generalize w10.heap.size=wl at hbl ⊢
  generalize w10.alloc (.cells #[.int .i64 g,.int .i64 wt,.int .i64 gt,.int .i64 bk] 44)=w11 at hxa h0a hbl ⊢
  obtain⟨_,_,_,z1⟩:=hxa.O.own.oP (o:=i) hi eo'.O;rw[e1'.O]at z1
  obtain⟨_,c1,_⟩:=hxa.O.cells;rw[eo'.O]at c1
  have l1:=hbl.O.cell (j:=1) rfl;have l2:=hbl.O.cell (j:=2) rfl;have l3:=hbl.O.cell (j:=3) rfl;obtain⟨held,RF⟩:∃x,bW s.aA i j c=x:=⟨_,rfl⟩;rw[RF]at hh1 hh2 g1'
  have Qx:=ah RF;have hw2:IntKind.i64.wrap (gt+n)=gt+n:=aN _ (by omega)
  have hw3:IntKind.i64.wrap (bk+held)=bk+held:=aN _ (by omega)
  have hw4:IntKind.i64.wrap (bk+held - n)=bk+held - n:=aN _ (by omega)
  have hw5:IntKind.i64.wrap (held - n)=held - n:=aN _ (by omega)
  rw[RF];clear RF;go_wp2_with fail;go_still_tail 22,(by kernel_rfl)
  change wpList _ _ _ _ _ w11.drew;refine jaQ rfl (.tmp 128) (.tmp 127) rfl rfl (i:=i) (k:=j) (y:=⟨g,wt,gt+n,bk+held - n⟩) hxa.O.drew hi hj e1'.O rfl rfl (λw12 jh2 hst12=>?_)
  refine fC ?_
  have h012:=h0a.drew.trans (hst12.below (B:=W0.heap.size) (λq hq=>by omega) h0a.drew.size)
  have NT:=ah (show Bx w12 aO bx 31 [] V9 (qg s i j c held n)by rw[YB,ZX.O];exact jh2)
  clear jh2 hst12 hxa h0a hbl z1 c1 l1 l2 l3 hw2 hw3 hw4;have jih:=ah (show lI p (qg s i j c held n)by rw[<- Qx.O];exact Fj (jf hc'.O) hF.O)
  have jiA:=ah (show May (qg s i j c held n) i j (held - n)by rw[<- Qx.O];exact I8 (jf hc'.O) hF.O)
  have jjj:=hb0.trans (h012.mono hb0.size);obtain⟨⟨y0,y1⟩,x0,x1,x2,x3,x4,x5,x6,eP,eU⟩:=hK.O w12 (h012);obtain⟨c0,c1,c2,c3,c4,c5,c6⟩:=NT.O.cells;have hbs:aO<=w12.heap.size:=aY zZ (jh NT.O.lt);go_wp2_with fail;clear y0 y1 x0 x1 x2 x3 x4 x5 x6 eP eU;clear c0 c1 c2 c3 c4 c5 c6 hw5;refine(jhl _ _ p _ i j (held - n) c (hP'.O _ jjj) jih.O jiA.O NT.O.own hbs).mono ?_
  rintro e W13 ⟨V',hsb,rfl,jqZ,jl4⟩;have hkp:=jf1 NT.O.own (show i<(qg s i j c held n).ak.length by rw[oV];exact hi) jl4 hbs
  have jeb:=ah (hkp.2.1 rfl _ _ NT.O.uK);have h013:=h012.trans (hkp.1.mono hle0);have jir:=ah jqZ;clear hkp jl4 hsb NT jih jiA h012 jjj jqZ;go_wp2_with (refine dB (.tmp 17) (.tmp 139) V9 V' rfl jeb.O rfl jir.O.one (λw14 jiV jnL=>?_);refine aW ?_)
  unfold Hid;have jgl:=qR h013 jnL h013.size (λk hk=>by injection hk with hk;omega)
  have jh1:=Bx.of jiV (jir.O.keptBy jnL jeb.O.blk (by decide) (by decide) (by decide) (by decide) (by decide) (by decide))
  have NS:=ah (show Bx w14 aO bx 31 [] V' (DN p s i j c n)by unfold DN;rw[Qx.O];exact jh1)
  clear jh1 jiV jnL h013 jeb jir;have hTh:=(I9 (jf hc'.O) hF.O).1;have hTi:i<(DN p s i j c n).ak.length:=by rw[hTh.ak,oV];exact hi
  have hTs:=ah hTh.right.sane;have N7:=ah (show pick p s i j c n=(close (DN p s i j c n) i,0)from bK.O)
  clear hTh hF bK;generalize DN p s i j c n=T at NS hTi hTs N7
  have l13:=hTs.O.tN hTi;have hTi':(i:Int)<(T.ak.length:Int):=by omega
  obtain⟨go2,co2,_,eo2,hgo2,-⟩:=NS.O.own.aU hTi;have jjr:=ah eo2;obtain⟨gl2,cl2,e2,jre⟩:=NS.O.own.Dx hTi (by omega)
  have e2':=ah e2;clear eo2 e2;go_wp2_with fail;go_loopw[19,20] (λa k' wr=>∃q:Nat,q<=(T.aC i).aH.length/\k'=.int .i64 q/\a=.bool (JY (T.aC i) q)/\Below w14.heap.size w14 wr) (λ_ k' _=>(T.aC i).aH.length - (RowKit.intOf k').toNat)
  case atStart=>exact⟨0,aK _,rfl,rfl,aj _ _⟩
  case round=>
   obtain⟨q,hq,rfl,rfl,h4⟩:=hrel;have hx:=ah (NS.O.below h4);obtain⟨_,_,z0,z1⟩:=hx.O.own.oP hTi jjr.O;rw[e2'.O]at z1
   obtain⟨c0,c1,c2,c3,c4,c5,c6⟩:=hx.O.cells;rw[jjr.O]at c1
   by_cases hq1:q<(T.aC i).aH.length
   ·have hqi:(q:Int)<((T.aC i).aH.length:Int):=by omega
    obtain⟨_,f0,f1,f2,f3⟩:=hx.O.own.sV hTi hq1 e2'.O;have hsu:=ah (WJ hq1);change Hid (JY (T.aC i) (q+1)=(JY (T.aC i) q&&decide ((T.aG i q).oh=(T.aG i q).iw)))at hsu
    cases hgq:JY (T.aC i) q
    ·have hn:=ah (show JY (T.aC i) (q+1)=false by rw[hsu.O,hgq];rfl)
     clear hgq hsu;go_wp2_with fail;go_quiet (fail)
     go_wp2_with fail;go_roundw
     case rel=>exact⟨q+1,by omega,by go_num,by rw[hn.O],below_drewN h4 _⟩
     case measure=>simp[RowKit.intOf];omega
    ·by_cases hgw:(T.aG i q).oh=(T.aG i q).iw
     ·have hgb:((T.aG i q).oh==(T.aG i q).iw)=true:=by simpa using hgw
      have hn:=ah (show JY (T.aC i) (q+1)=true by rw[hsu.O,hgq,hgw];simp)
      clear hgq hsu hgw;go_wp2_with fail;go_quiet (fail)
      go_wp2_with fail;go_roundw
      case rel=>exact⟨q+1,by omega,by go_num,by rw[hn.O],below_drewN h4 _⟩
      case measure=>simp[RowKit.intOf];omega
     ·have hgb:((T.aG i q).oh==(T.aG i q).iw)=false:=by simpa using hgw
      have hn:=ah (show JY (T.aC i) (q+1)=false by rw[hsu.O,hgq,fA hgw];rfl)
      clear hgq hsu hgw;go_wp2_with fail;go_quiet (fail)
      go_wp2_with fail;go_roundw
      case rel=>exact⟨q+1,by omega,by go_num,by rw[hn.O],below_drewN h4 _⟩
      case measure=>simp[RowKit.intOf];omega
   ·obtain rfl:q=(T.aC i).aH.length:=by omega
    rw[YZ];have h0r:=jgl.trans (h4.mono jgl.size);have jog:=hb0.trans (h0r.mono hb0.size);cases hag:oZ (T.aC i)
    ·have bK:=ah (show pick p s i j c n=(T,0)by rw[N7.O];unfold close;rw[hag];rfl)
     have hvv:=jjr.O;clear hag N7 z0 c0 c1 c2 c3 c4 c5 c6 NS jjr e2';obtain⟨a0,a1,a2,a3,a4,a5,a6,a7,a8⟩:=V';obtain rfl:a1=.slice (some ⟨go2,0,none⟩) T.ak.length co2:=hvv;have fH:=hR.O _ h0r;obtain⟨b0,b1,b2,b3,b4,b5,b6⟩:=jk.cells hx.O.uK;have lG:=dK.one hx.O.own;go_wp2_with (refine dB (.tmp 12) (.tmp 182) dH (⟨a0,.slice (some ⟨go2,0,none⟩) T.ak.length co2,a2,a3,a4,a5,a6,a7,a8⟩:SV) rfl fH rfl lG (λw9 dM je=>?_))
     have wC:=dK.keptBy hx.O.own je fH (by decide) (by decide) (by decide) (by decide) (by decide) (by decide)
     have dN:=Below.gB jog je;clear b0 b1 b2 b3 b4 b5 b6;go_wp2_with fail;exact jo results55 dM rfl rfl (EZ bK.O (wC.from_ hle) dN)
    ·have bK:=ah (show pick p s i j c n=({T with ak:=T.ak.set i {T.aC i with dW:=2}},0)by rw[N7.O];unfold close;rw[hag];rfl)
     clear hag N7 c0 c2 c3 c4 c5 c6;go_wp2_with (refine F6 rfl (.tmp 181) (.const (.int .i64 2)) rfl rfl (i:=i) (q:=2) hx.O hTi jjr.O rfl rfl (λw15 jqC jl2=>?_);refine aW ?_)
     unfold Hid;have jsb:=h0r.trans (jl2.below (B:=W0.heap.size) (λq hq=>by omega) h0r.size)
     have jus:=hb0.trans (jsb.mono hb0.size);have jh0:=ah jqC;clear jqC jl2 z0 z1 c1;have fH:=hR.O _ jsb;obtain⟨b0,b1,b2,b3,b4,b5,b6⟩:=jk.cells jh0.O.uK;have lG:=dK.one jh0.O.own;go_wp2_with (refine dB (.tmp 12) (.tmp 182) dH V' rfl fH rfl lG (λw9 dM je=>?_))
     have wC:=dK.keptBy jh0.O.own je fH (by decide) (by decide) (by decide) (by decide) (by decide) (by decide)
     have dN:=Below.gB jus je;clear b0 b1 b2 b3 b4 b5 b6;go_wp2_with fail;exact jo results55 dM rfl rfl (EZ bK.O (wC.from_ hle) dN)
 ·have hne:(aQ p s !=0)=true:=by simpa using hc
  have bK:=ah (jbg (o:=o) (k:=k) (b:=b) (n:=n) hc);clear hc;have fH:=hR.O _ h1;go_wp2_with (refine dB (.tmp 12) (.tmp 26) dH dH rfl fH rfl rfl (λw9 dM je=>?_))
  have dN:=Below.gB hB1 je;go_wp2_with fail;exact jo results55 dM rfl rfl (jQ bK.O dN)
end Wh
namespace Wh
open Go Go.RowKit Go.Shelf Go.Proofs Tryz
attribute [local go_sem] aT jW jm kC
theorem drop_zero{l:List dZ}{o k b:Int}(hok:iD l=true)(h:bW l o k b=0):drop l o k b=([],0,4):=by
 unfold drop;rw[hok,ay (by simp),aB h]
theorem jgu{l:List dZ}{o k b:Int}(hok:iD l=true)(h:bW l o k b≠0):drop l o k b=(jH l ⟨o,k,b,0⟩,bW l o k b,0):=by
 unfold drop;rw[hok,ay (by simp),ay h]
theorem jb1{l x:List dZ}{o ln b m c:Int}(h:drop l o ln b=(x,m,c))(w:World)(v:Value)(hv:Sl ig w w.heap.size v l):
  Calls prog 101 #[v,.int .i64 o,.int .i64 ln,.int .i64 b] w λe w'=>∃u,e=.returned (.tuple #[u,.int .i64 m,.int .i64 c])/\Own ig 4 46 w' w.heap.size u x/\Below w.heap.size w w':=by
 have:=jnO w v l o ln b hv;unfold jcP at this
 rw[h]at this
 exact this
theorem XJ(s:aJ)(i j:Nat)(y z:Line)(hi:i<s.ak.length):(s.lY i j y).lY i j z=s.lY i j z:=by
 unfold aJ.lY;simp only;have h:aJ.aC {s with ak:=s.ak.set i {s.aC i with aH:=(s.aC i).aH.set j y}} i={s.aC i with aH:=(s.aC i).aH.set j y}:=by
  unfold aJ.aC;rw[EN hi,aB rfl]
 rw[h];simp only[DV]
theorem ZC{s:aJ}{i j c:Nat}{n held:Int}(hi:i<s.ak.length)(y:Line):
  ((preS s i j c n).lY i j y).lY i j {s.aG i j with oh:=(s.aG i j).oh+n,dP:=(s.aG i j).dP+(held - n)}=qg s i j c held n:=by
 rw[XJ (preS s i j c n) i j _ _ hi,YB,show(s.aG i j).dP+(held - n)=(s.aG i j).dP+held - n by omega]
theorem jkv(x:Line)(W:World):Calls prog 102 #[I5 x] W λe W'=>e=.returned (.bool (decide (x.oh<x.iw)))/\Below W.heap.size W W':=by
 have hb0:Below W.heap.size W (W.alloc (.cells #[.int .i64 (x).dh,.int .i64 (x).iw,.int .i64 (x).oh,.int .i64 (x).dP] 44)):=(aj _ _).alloc (au _) _;unfold I5;go_enter func102,ntmps102
 go_wp2_with fail;go_ret
 exact⟨rfl,hb0⟩
theorem X9:Enters prog 102:=enters_of func102 (by kernel_rfl) rfl
theorem jmQ(w:World)(v vs:Value)(p:dA)(s:aJ)(o k b n:Int)(hp:mW w w.heap.size v p)(hv:lK w w.heap.size vs s):
  Calls prog 48 #[v,vs,.int .i64 o,.int .i64 k,.int .i64 b,.int .i64 n] w (nN (pick p s o k b n) w):=by
 obtain⟨Ab,cb,As,cs,rfl,hP',hBn,hSz,hlb,hls⟩:=sN hp;obtain⟨A0,c0,A1,c1,A2,c2,A3,c3,A4,c4,A5,c5,A6,c6,rfl,hV,hN,hO,hH,hM,hI,hU,hX,hl0,hl1,hl2,hl3,hl4,hl5,JA⟩:=oW hv;go_enter func48,ntmps48
 go_wp2_with fail;obtain⟨W0,hW0,hb0,lg,uZ,hsE,hK,hR⟩:=yD w p s Ab cb As cs A0 c0 A1 c1 A2 c2 A3 c3 A4 c4 A5 c5 A6 c6;rw[hW0];clear hW0;obtain⟨⟨y0,y1⟩,x0,x1,x2,x3,x4,x5,x6,eP,eU⟩:=hK.O W0 (aj W0.heap.size W0);go_wp2_with fail;clear y0 y1 x0 x1 x2 x3 x4 x5 x6 eP eU;refine(Nz _ _ _ p s (hP'.O _ hb0) (hV.O _ hb0)).mono ?_
 rintro e W1 ⟨rfl,h1⟩;have hB1:=hb0.trans (h1.mono hb0.size);obtain⟨⟨y0,y1⟩,x0,x1,x2,x3,x4,x5,x6,eP,eU⟩:=hK.O W1 (h1);by_cases hc:aQ p s=0
 ·have hc':=ah hc;have hsn:=ah (kM.1 hc).1;rw[hc];clear hc;by_cases hk0:bW s.aA o k b=0
  ·have bK:=ah (YC (n:=n) hc'.O hk0);have hdr:=ah (drop_zero hsn.O.aA hk0);clear hk0;go_wp2_with fail;clear y0 y1 x0 x1 x2 x3 x4 x5 x6 eP eU;refine(jb1 hdr.O _ _ (hH.O _ hB1)).mono ?_
   rintro e W2 ⟨u,rfl,hu,h2⟩;have h02:=h1.trans (h2.mono h1.size);have hB2:=hb0.trans (h02.mono hb0.size);have fH:=hR.O _ h02;go_wp2_with (refine dB (.tmp 12) (.tmp 40) dH dH rfl fH rfl rfl (λw9 dM je=>?_))
   have dN:=Below.gB hB2 je;go_wp2_with fail;exact jo results48 dM rfl rfl (jQ bK.O dN)
  have hdr:=ah (jgu hsn.O.aA hk0);have hk0':=ah hk0;have wK:=Fv (gG.1 hsn.O.aA).1 (gG.1 hsn.O.aA).2 o k b;clear hk0;go_wp2_with fail;clear y0 y1 x0 x1 x2 x3 x4 x5 x6 eP eU;refine(jb1 hdr.O _ _ (hH.O _ hB1)).mono ?_
  rintro e W2 ⟨u,rfl,hu,h2⟩;have h02:=h1.trans (h2.mono h1.size);have hB2:=hb0.trans (h02.mono hb0.size);have hle:w.heap.size<=W1.heap.size:=hB1.size;obtain⟨A7,c7,rfl⟩:=hu.isSlice;have hu2:=ah hu;have hle0:W0.heap.size<=W1.heap.size:=h1.size;have hle2:W1.heap.size<=W2.heap.size:=h2.size;clear hu h2 h1 hB1;obtain⟨⟨y0,y1⟩,x0,x1,x2,x3,x4,x5,x6,eP,eU⟩:=hK.O W2 (h02);by_cases g1:n<0
  ·have bK:=ah (Qm hc'.O hk0'.O (.inl g1));clear hu2;have fH:=hR.O _ h02;go_wp2_with (refine dB (.tmp 12) (.tmp 49) dH dH rfl fH rfl rfl (λw9 dM je=>?_))
   have dN:=Below.gB hB2 je;go_wp2_with fail;exact jo results48 dM rfl rfl (jQ bK.O dN)
  by_cases g2:bW s.aA o k b<n
  ·have bK:=ah (Qm hc'.O hk0'.O (.inr g2));clear hu2;have fH:=hR.O _ h02;go_wp2_with (refine dB (.tmp 12) (.tmp 49) dH dH rfl fH rfl rfl (λw9 dM je=>?_))
   have dN:=Below.gB hB2 je;go_wp2_with fail;exact jo results48 dM rfl rfl (jQ bK.O dN)
  obtain⟨i,j,c,rfl,rfl,rfl,hi,hj,hcb,hh1,hh2,hpk⟩:=jeU hc'.O hk0'.O (n:=n) ⟨by omega,by omega⟩
  have hpk':=ah hpk;have hn0:0<=n/\n<=bW s.aA i j c:=⟨by omega,by omega⟩
  clear hpk hk0' hdr wK;go_wp2_with fail;clear y0 y1 x0 x1 x2 x3 x4 x5 x6 eP eU;refine(ja1 _ _ p s (hV.O _ hB2) hsn.O).mono ?_
  rintro e W5 ⟨_,rfl,⟨V5,rfl,AY⟩,h5⟩;have pq:=(AY).one;have xw:=vG (W5);go_wp2_with (refine dB (.tmp 18) (.tmp 51) dH V5 rfl xw rfl pq (λw6 lM Ib=>?_);refine aW ?_)
  unfold Hid;have sG:=qX Ib;have vT:=lM.lt;clear pq xw Ib;have h26:=h5.trans (sG.mono h5.size);have hx6:=ah ((Bx.of lM (AY.below sG)).from_ hle2);have hu6:=ah (hu2.O.below h26);have h06:=h02.trans (h26.mono h02.size);have zZ:W1.heap.size<=W5.heap.size:=aY hle2 h5.size;clear lM AY sG h5 vT h02 hB2 h26 hu2 hle2;generalize W1.heap.size=aO at hx6 hle hle0 zZ hu6
  generalize W5.heap.size=bx at hx6 zZ ⊢
  have hg0:=(hsn.O.aG hi hj).1;obtain⟨g,hg⟩:∃g:Nat,(s.aG i j).dh=(g:Int):=⟨(s.aG i j).dh.toNat,by omega⟩
  have hgt:(s.aG i j).dh.toNat=g:=by omega
  have rG:g<p.aP.length:=by omega
  have hgo:g<s.O.length:=by rw[hsn.O.O.1];exact rG
  have jtJ:(g:Int)<(s.O.length:Int):=by omega
  have o1:=hsn.O.O.2 rG;have hwo:IntKind.i64.wrap (bI s.O g+n)=bI s.O g+n:=aN _ (by omega)
  have hi':(i:Int)<s.ak.length:=by omega
  have hj':(j:Int)<((s.aC i).aH.length:Int):=by omega
  rw[hgt]at hpk'
  obtain⟨go,co,jjB,eo,jtK,Ob,z0,z1⟩:=hx6.O.own.aU (o:=i) hi;obtain⟨gl,cl,curl,e1,hgl,Cc,f0,f1,f2,f3⟩:=hx6.O.own.gK (o:=i) (k:=j) hi hj;obtain⟨gu,cu,juJ,eu,hgu,hbu,ru⟩:=dK.BF hx6.O.own.O (g:=g) hgo;obtain⟨c0,c1,c2,c3,c4,c5,c6⟩:=hx6.O.cells;rw[eo]at c1
  rw[e1]at z1
  rw[eu]at c5
  rw[hg]at f0
  have e1':=ah e1;have eo':=ah eo;have eu':=ah eu;clear e1 eo eu Cc Ob hbu z0 f1 f2 f3;by_cases hm:1048576<bI s.O g+n
  ·have bK:=ah (show pick p s i j c n=(jD,2)by rw[hpk'.O,aB hm])
   go_wp2_with fail;go_quiet (fail)
   have Nq:=below_drewN h06 nq;have hBd:=hb0.trans (Nq.mono hb0.size);clear c0 c1 c2 c3 c4 c5 c6 z1 f0 ru hx6 hu6;generalize w6.drewN nq=w7 at Nq hBd ⊢
   have fH:=hR.O _ Nq;go_wp2_with (refine dB (.tmp 12) (.tmp 73) dH dH rfl fH rfl rfl (λw9 dM je=>?_))
   have dN:=Below.gB hBd je;go_wp2_with fail;exact jo results48 dM rfl rfl (jQ bK.O dN)
  have hmd:=fA hm;have bK:=ah (show pick p s i j c n=(Ai p s i j c n,0)by rw[hpk'.O,ay hm])
  have hF:=ah (show FT p s i j c n from⟨hi,hj,hcb,hh1,hn0.1,hn0.2,by rw[hgt];omega⟩)
  go_wp2_with fail;go_quiet (fail)
  have hd7:=below_drewN (aj w6.heap.size w6) nq;have hx7:=ah (hx6.O.below hd7);have hu7:=ah (hu6.O.below hd7);have h07:=h06.trans (hd7.mono h06.size);clear c0 c1 c2 c3 c4 c5 c6 z1 f0 ru hx6 hu6 hd7 h06 hpk' hmd hm;generalize w6.drewN nq=w7 at hx7 hu7 h07 ⊢
  go_wp2_with (refine GV rfl (.tmp 75) (.tmp 74) rfl rfl A7 _ c7 _ hx7.O rfl rfl hu7.O (λw8 KQ AX=>?_);refine aW ?_)
  unfold Hid;have DY:=h07.trans (AX.below (B:=W0.heap.size) (λq hq=>by omega) h07.size)
  have vP:=ah KQ;have e19:=ah (show({V5 with aA:=.slice A7 (jH s.aA ⟨i,j,c,0⟩).length c7}:SV).aG i=.slice (some ⟨gl,0,none⟩) (s.aC i).aH.length cl from e1'.O)
  have eo9:=ah (show({V5 with aA:=.slice A7 (jH s.aA ⟨i,j,c,0⟩).length c7}:SV).ak=.slice (some ⟨go,0,none⟩) s.ak.length co from eo'.O)
  clear KQ AX hx7 hu7 h07 e1' eo' eu';generalize ({V5 with aA:=.slice A7 (jH s.aA ⟨i,j,c,0⟩).length c7}:SV)=V9 at vP e19 eo9
  have hco:c<s.on.length:=by rw[hsn.O.tY];exact hcb
  have hci:(c:Int)<(s.on.length:Int):=by omega
  have hgr:g<(fO s.on c).length:=by rw[hsn.O.rowLen hcb];exact rG
  have jk0:(g:Int)<((fO s.on c).length:Int):=by omega
  have jtT:=hsn.O.cell hcb rG;have hw1:IntKind.i64.wrap (cell s.on c g - n)=cell s.on c g - n:=aN _ (by omega)
  obtain⟨Ic,con,PE,gr,cr,cur,Ot,Wy,Oa,r0,er,Wx,hbr,rc⟩:=vP.O.own.Py hco hgr;change w8.cell? _=some (.int .i64 (cell s.on c g))at rc
  change w8.cell? _=some (.slice _ (fO s.on c).length _)at r0
  change V9.on=.slice _ s.on.length _ at Ot
  obtain⟨_,f0,_⟩:=vP.O.own.sV (o:=i) (k:=j) hi hj e19.O;change w8.cell? _=some (.int .i64 (s.aG i j).dh)at f0
  rw[hg]at f0
  obtain⟨c0,_⟩:=vP.O.cells;rw[Ot]at c0
  have er':=ah er;clear Ot er Oa hbr;go_wp2_with fail;go_still_tail 14,(by kernel_rfl)
  change wpList _ _ _ _ _ w8.drew;refine GU rfl (.tmp 89) (.tmp 88) rfl rfl (i:=c) (g:=g) (q:=cell s.on c g - n) vP.O.drew hco hgr er'.O rfl rfl (λw9 uO wJ=>?_)
  refine fC ?_
  have h09:=DY.drew.trans (wJ.below (B:=W0.heap.size) (λq hq=>by omega) DY.drew.size)
  have Dj:=ah (show Bx w9 aO bx 31 [] V9 {rZ s c g n with aA:=jH s.aA ⟨i,j,c,0⟩}from uO)
  clear uO wJ c0 f0 r0 rc hw1 vP DY er';obtain⟨gu2,cu2,curu2,eu2,hgu2,jtW,ru⟩:=dK.BF Dj.O.own.O (g:=g) hgo;change w9.cell? _=some (.int .i64 (bI s.O g))at ru
  change V9.O=.slice _ s.O.length _ at eu2
  obtain⟨_,f0,_⟩:=Dj.O.own.sV (o:=i) (k:=j) hi hj e19.O;change w9.cell? _=some (.int .i64 (s.aG i j).dh)at f0
  rw[hg]at f0
  obtain⟨_,_,_,_,_,c5,_⟩:=Dj.O.cells;rw[eu2]at c5
  have eu':=ah eu2;clear eu2 jtW;go_wp2_with fail;go_still_tail 11,(by kernel_rfl)
  change wpList _ _ _ _ _ w9.drew;refine Yi rfl (.tmp 100) (.tmp 99) rfl rfl (g:=g) (q:=bI s.O g+n) Dj.O.drew hgo eu'.O rfl rfl (λw10 Dz xu=>?_)
  refine fC ?_
  have h010:=h09.drew.trans (xu.below (B:=W0.heap.size) (λq hq=>by omega) h09.drew.size)
  have sK:=ah (show Bx w10 aO bx 31 [] V9 (preS s i j c n)by rw[<- jhC hgt];exact Dz)
  clear Dz xu c5 f0 ru Dj h09 eu';have hln:=(hsn.O.aG hi hj).2;obtain⟨gd,wt,gt,bk,hxl⟩:∃gd wt gt bk,s.aG i j=⟨gd,wt,gt,bk⟩:=⟨_,_,_,_,rfl⟩;rw[hxl]at hln hg
  have ZX:=ah hxl;simp only at hln hg
  subst hg;obtain⟨held,RF⟩:∃x,bW s.aA i j c=x:=⟨_,rfl⟩;rw[RF]at hh1 hh2 hn0
  have Qx:=ah RF;have hw2:IntKind.i64.wrap (gt+n)=gt+n:=aN _ (by omega)
  have hw5:IntKind.i64.wrap (held - n)=held - n:=aN _ (by omega)
  have hw4:IntKind.i64.wrap (bk+(held - n))=bk+(held - n):=aN _ (by omega)
  obtain⟨_,f0,f1,f2,f3⟩:=sK.O.own.sV (o:=i) (k:=j) hi hj e19.O;change w10.cell? _=some (.int .i64 (s.aG i j).oh)at f2
  rw[hxl]at f2
  rw[RF];clear RF f0 f1 f3 hxl;go_wp2_with (refine AO rfl (.tmp 108) (.tmp 106) rfl rfl (i:=i) (k:=j) (j:=2) (y:=⟨g,wt,gt+n,bk⟩) sK.O hi hj e19.O (by decide) (show kP ⟨g,wt,gt+n,bk⟩=(kP (s.aG i j)).set 2 (.int .i64 (gt+n))by rw[ZX.O];rfl) rfl rfl (λw11 XV jl5=>?_);refine aW ?_)
  unfold Hid;have h011:=h010.trans (jl5.below (B:=W0.heap.size) (λq hq=>by omega) h010.size)
  have jh3:=ah XV;have jnC:=ah (show((preS s i j c n).lY i j ⟨g,wt,gt+n,bk⟩).aG i j=⟨g,wt,gt+n,bk⟩by rw[LZ (s:=preS s i j c n) hi hj,aB ⟨rfl,rfl⟩])
  have jnI:i<((preS s i j c n).lY i j ⟨g,wt,gt+n,bk⟩).ak.length:=by rw[Jb];exact hi
  have jnG:j<(((preS s i j c n).lY i j ⟨g,wt,gt+n,bk⟩).aC i).aH.length:=by rw[Kw (s:=preS s i j c n) hi];exact hj
  clear XV jl5 f2 sK h010 hw2;obtain⟨_,f0,f1,f2,f3⟩:=jh3.O.own.sV jnI jnG e19.O;rw[jnC.O]at f3
  clear f0 f1 f2;go_wp2_with (refine AO rfl (.tmp 118) (.tmp 116) rfl rfl (i:=i) (k:=j) (j:=3) (y:=⟨g,wt,gt+n,bk+(held - n)⟩) jh3.O jnI jnG e19.O (by decide) (by rw[jnC.O];rfl) rfl rfl (λw12 jh2 hst12=>?_);refine aW ?_)
  unfold Hid;have h012:=h011.trans (hst12.below (B:=W0.heap.size) (λq hq=>by omega) h011.size)
  have NT:=ah (show Bx w12 aO bx 31 [] V9 (qg s i j c held n)by rw[<- ZC (s:=s) (n:=n) (held:=held) (c:=c) (j:=j) hi ⟨g,wt,gt+n,bk⟩,ZX.O];exact jh2)
  clear jh2 hst12 f3 jh3 h011 hw4 jnC jnI jnG;have jih:=ah (show lI p (qg s i j c held n)by rw[<- Qx.O];exact Fj (jf hc'.O) hF.O)
  have jiA:=ah (show May (qg s i j c held n) i j (held - n)by rw[<- Qx.O];exact I8 (jf hc'.O) hF.O)
  have jjj:=hb0.trans (h012.mono hb0.size);obtain⟨⟨y0,y1⟩,x0,x1,x2,x3,x4,x5,x6,eP,eU⟩:=hK.O w12 (h012);have hbs:aO<=w12.heap.size:=aY zZ (jh NT.O.lt);go_wp2_with fail;clear y0 y1 x0 x1 x2 x3 x4 x5 x6 eP eU;clear hw5;refine(jeH _ _ p _ i j (held - n) c (hP'.O _ jjj) jih.O jiA.O NT.O hbs).mono ?_
  rintro e w14 ⟨rfl,V7,jqP,jh1,jl3⟩;have hge:∀q,(q=bx\/(V9.aG i).ownBlock=some q)->aO<=q:=λq hq=>by
   rcases hq with rfl|hq
   ·exact zZ
   ·exact((NT.O.own.aG i (show i<(qg s i j c held n).ak.length by rw[oV];exact hi)).size q hq).1
  have jgl:=h012.trans (jl3.below (B:=W0.heap.size) (λq hq=>aY hle0 (hge q hq)) h012.size)
  have NS:=ah (show Bx w14 aO bx 31 [] V7 (DN p s i j c n)by unfold DN;rw[Qx.O];exact jh1)
  have eo7:=ah (show V7.ak=.slice (some ⟨go,0,none⟩) s.ak.length co by rw[jqP];exact eo9.O)
  clear jh1 jl3 jqP hge NT h012 jjj jih jiA eo9 e19;have hTh:=(I9 (jf hc'.O) hF.O).1;have hTi:i<(DN p s i j c n).ak.length:=by rw[hTh.ak,oV];exact hi
  have hTs:=ah hTh.right.sane;have N7:=ah (show pick p s i j c n=(close (DN p s i j c n) i,0)from bK.O)
  clear hTh hF bK;generalize DN p s i j c n=T at NS hTi hTs N7
  have l13:=hTs.O.tN hTi;obtain⟨_,_,_,z1⟩:=NS.O.own.oP hTi eo7.O;have hsl:=ah ((NS.O.own.aG i hTi).sl (by omega))
  go_wp2_with fail;clear z1;refine(xO _ _ (T.aC i).aH 102 #[] (λx=>decide (x.oh<x.iw)) X9 hsl.O (λj _ W hW=>jkv _ W)).mono ?_
  rintro e W15 ⟨rfl,h15⟩;rw[Xq hTs.O hTi];have hx:=ah (NS.O.below h15);have h0r:=jgl.trans (h15.mono jgl.size);have jog:=hb0.trans (h0r.mono hb0.size);clear hsl NS jgl h15;cases hag:oZ (T.aC i)
  ·have bK:=ah (show pick p s i j c n=(T,0)by rw[N7.O];unfold close;rw[hag];rfl)
   clear hag N7;have fH:=hR.O _ h0r;obtain⟨b0,b1,b2,b3,b4,b5,b6⟩:=jk.cells hx.O.uK;have lG:=dK.one hx.O.own;go_wp2_with (refine dB (.tmp 12) (.tmp 136) dH V7 rfl fH rfl lG (λw9 dM je=>?_))
   have wC:=dK.keptBy hx.O.own je fH (by decide) (by decide) (by decide) (by decide) (by decide) (by decide)
   have dN:=Below.gB jog je;clear b0 b1 b2 b3 b4 b5 b6;go_wp2_with fail;exact jo results48 dM rfl rfl (EZ bK.O (wC.from_ hle) dN)
  ·have bK:=ah (show pick p s i j c n=({T with ak:=T.ak.set i {T.aC i with dW:=2}},0)by rw[N7.O];unfold close;rw[hag];rfl)
   clear hag N7;obtain⟨_,_,z0,_⟩:=hx.O.own.oP hTi eo7.O;go_wp2_with (refine F6 rfl (.tmp 135) (.const (.int .i64 2)) rfl rfl (i:=i) (q:=2) hx.O hTi eo7.O rfl rfl (λw16 hx16 jl1=>?_);refine aW ?_)
   unfold Hid;have jsa:=h0r.trans (jl1.below (B:=W0.heap.size) (λq hq=>by omega) h0r.size)
   have jur:=hb0.trans (jsa.mono hb0.size);have jhZ:=ah hx16;clear hx16 jl1 z0;have fH:=hR.O _ jsa;obtain⟨b0,b1,b2,b3,b4,b5,b6⟩:=jk.cells jhZ.O.uK;have lG:=dK.one jhZ.O.own;go_wp2_with (refine dB (.tmp 12) (.tmp 136) dH V7 rfl fH rfl lG (λw9 dM je=>?_))
   have wC:=dK.keptBy jhZ.O.own je fH (by decide) (by decide) (by decide) (by decide) (by decide) (by decide)
   have dN:=Below.gB jur je;clear b0 b1 b2 b3 b4 b5 b6;go_wp2_with fail;exact jo results48 dM rfl rfl (EZ bK.O (wC.from_ hle) dN)
 ·have hne:(aQ p s !=0)=true:=by simpa using hc
  have bK:=ah (jbg (o:=o) (k:=k) (b:=b) (n:=n) hc);clear hc;have fH:=hR.O _ h1;go_wp2_with (refine dB (.tmp 12) (.tmp 26) dH dH rfl fH rfl rfl (λw9 dM je=>?_))
  have dN:=Below.gB hB1 je;go_wp2_with fail;exact jo results48 dM rfl rfl (jQ bK.O dN)
end Wh
namespace Wh
open Go Go.RowKit Go.Shelf Go.Proofs Tryz
attribute [local go_sem] aT jW jm kC
def mv2(s:aJ)(a d g:Nat)(n:Int):aJ:={rZ s a g n with on:=setCell (rZ s a g n).on d g (cell (rZ s a g n).on d g+n)}
theorem VK{s:aJ}{i a d g:Nat}{m n:Int}(h:bH s.aF i=⟨g,a,d,m⟩):({mv2 s a d g n with aF:=s.aF.eraseIdx i}:aJ)=AQ s i n:=by
 unfold AQ;rw[h];rfl
theorem jlo(w:World)(v vs:Value)(p:dA)(s:aJ)(k n:Int)(hp:mW w w.heap.size v p)(hv:lK w w.heap.size vs s):
  Calls prog 50 #[v,vs,.int .i64 k,.int .i64 n] w (nN (CW p s k n) w):=by
 obtain⟨Ab,cb,As,cs,rfl,hP',hBn,hSz,hlb,hls⟩:=sN hp;obtain⟨A0,c0,A1,c1,A2,c2,A3,c3,A4,c4,A5,c5,A6,c6,rfl,hV,hN,hO,hH,hM,hI,hU,hX,hl0,hl1,hl2,hl3,hl4,hl5,JA⟩:=oW hv;go_enter func50,ntmps50
 go_wp2_with fail;obtain⟨W0,hW0,hb0,lg,uZ,hsE,hK,hR⟩:=yD w p s Ab cb As cs A0 c0 A1 c1 A2 c2 A3 c3 A4 c4 A5 c5 A6 c6;rw[hW0];clear hW0;obtain⟨⟨y0,y1⟩,x0,x1,x2,x3,x4,x5,x6,eP,eU⟩:=hK.O W0 (aj W0.heap.size W0);go_wp2_with fail;clear y0 y1 x0 x1 x2 x3 x4 x5 x6 eP eU;refine(Nz _ _ _ p s (hP'.O _ hb0) (hV.O _ hb0)).mono ?_
 rintro e W1 ⟨rfl,h1⟩;have hB1:=hb0.trans (h1.mono hb0.size);obtain⟨⟨y0,y1⟩,x0,x1,x2,x3,x4,x5,x6,eP,eU⟩:=hK.O W1 (h1);by_cases hc:aQ p s=0
 ·have hc':=ah hc;have hsn:=ah (kM.1 hc).1;rw[hc];clear hc;by_cases g1:k<0
  ·have bK:=ah (Qo (n:=n) hc'.O (.inl g1));have fH:=hR.O _ h1;go_wp2_with (refine dB (.tmp 8) (.tmp 29) dH dH rfl fH rfl rfl (λw9 dM je=>?_))
   have dN:=Below.gB hB1 je;go_wp2_with fail;exact jo results50 dM rfl rfl (jQ bK.O dN)
  by_cases g2:(s.aF.length:Int)<=k
  ·have bK:=ah (Qo (n:=n) hc'.O (.inr g2));have fH:=hR.O _ h1;go_wp2_with (refine dB (.tmp 8) (.tmp 29) dH dH rfl fH rfl rfl (λw9 dM je=>?_))
   have dN:=Below.gB hB1 je;go_wp2_with fail;exact jo results50 dM rfl rfl (jQ bK.O dN)
  obtain⟨i,rfl⟩:∃i:Nat,k=i:=⟨k.toNat,by omega⟩
  have hk:i<s.aF.length:=by omega
  have hki:(i:Int)<(s.aF.length:Int):=by omega
  have h8:=hsn.O.vJ;obtain⟨gd,sr,ds,mn,hxm⟩:∃gd sr ds mn,bH s.aF i=⟨gd,sr,ds,mn⟩:=⟨_,_,_,_,rfl⟩;have hmv:=hsn.O.bH hk;rw[hxm]at hmv
  simp only at hmv
  obtain⟨g,rfl⟩:∃g:Nat,gd=g:=⟨gd.toNat,by omega⟩
  obtain⟨a,rfl⟩:∃a:Nat,sr=a:=⟨sr.toNat,by omega⟩
  obtain⟨d,rfl⟩:∃d:Nat,ds=d:=⟨ds.toNat,by omega⟩
  have rG:g<p.aP.length:=by omega
  have hap:a<p.bQ.length:=by omega
  have hdp:d<p.bQ.length:=by omega
  have had:a≠d:=by omega
  have hao:a<s.on.length:=by rw[hsn.O.tY];exact hap
  have hdo:d<s.on.length:=by rw[hsn.O.tY];exact hdp
  have hga:g<(fO s.on a).length:=by rw[hsn.O.rowLen hap];exact rG
  have hgd:g<(fO s.on d).length:=by rw[hsn.O.rowLen hdp];exact rG
  have hai:(a:Int)<(s.on.length:Int):=by omega
  have hdi:(d:Int)<(s.on.length:Int):=by omega
  have jtP:(g:Int)<((fO s.on a).length:Int):=by omega
  have jtN:(g:Int)<((fO s.on d).length:Int):=by omega
  have hca:=hsn.O.cell hap rG;have hcd:=hsn.O.cell hdp rG;have Rx:=ah hxm;obtain⟨okm,lm,e0,e1,e2,e3⟩:=(hM.O W1 hB1).at_.move hk;rw[hxm]at e0 e1 e2 e3
  simp only at e0 e1 e2 e3
  have h1a:=h1.alloc h1.size (.cells #[.int .i64 g,.int .i64 a,.int .i64 d,.int .i64 mn] 48);have UA:=hB1.alloc hB1.size (.cells #[.int .i64 g,.int .i64 a,.int .i64 d,.int .i64 mn] 48);clear hxm;by_cases g3:n<0
  ·have bK:=ah (NI (n:=n) hc'.O hk (.inl g3));have fH:=hR.O _ h1a;go_wp2_with (refine dB (.tmp 8) (.tmp 43) dH dH rfl fH rfl rfl (λw9 dM je=>?_))
   have dN:=Below.gB UA je;go_wp2_with fail;exact jo results50 dM rfl rfl (jQ bK.O dN)
  by_cases g4:mn<n
  ·have bK:=ah (NI (n:=n) hc'.O hk (.inr (by rw[Rx.O];exact g4)))
   have fH:=hR.O _ h1a;go_wp2_with (refine dB (.tmp 8) (.tmp 43) dH dH rfl fH rfl rfl (λw9 dM je=>?_))
   have dN:=Below.gB UA je;go_wp2_with fail;exact jo results50 dM rfl rfl (jQ bK.O dN)
  have Oc:=ah (iV.new W1 48 #[.int .i64 g,.int .i64 a,.int .i64 d,.int .i64 mn]);obtain⟨Ar,cr,or0,TQ,Yx,vS⟩:=(hN.O W1 hB1).row hdo;obtain⟨or1,lr1,QW⟩:=vS.at_.int hgd;change W1.cell? _=some (.int .i64 (cell s.on d g))at QW
  have hw0:IntKind.i64.wrap (cell s.on d g+n)=cell s.on d g+n:=aN _ (by omega)
  by_cases hm:200<cell s.on d g+n
  ·have bK:=ah (VL (n:=n) hc'.O hk (by rw[Rx.O];exact⟨by omega,by simp only;omega⟩) (by rw[Rx.O];simp only[bZ];exact hm))
   go_wp2_with fail;go_quiet (fail)
   have Nq:=below_drewN h1a nq;have hBd:=below_drewN UA nq;clear y0 y1 x0 x1 x2 x3 x4 x5 x6 eP eU;clear e0 e1 e2 e3 okm lm or0 TQ Yx vS or1 lr1 QW Oc h1a UA;generalize (W1.alloc (.cells #[.int .i64 g,.int .i64 a,.int .i64 d,.int .i64 mn] 48)).drewN nq=W4 at Nq hBd ⊢
   have fH:=hR.O _ Nq;go_wp2_with (refine dB (.tmp 8) (.tmp 57) dH dH rfl fH rfl rfl (λw9 dM je=>?_))
   have dN:=Below.gB hBd je;go_wp2_with fail;exact jo results50 dM rfl rfl (jQ bK.O dN)
  have hmd:=fA hm;have bK:=ah (jbp (n:=n) hc'.O ⟨hk,by omega,by rw[Rx.O];simp only;omega,by rw[Rx.O];simp only[bZ];omega⟩)
  go_wp2_with fail;go_quiet (fail)
  have Nq:=below_drewN h1a nq;have hBd:=below_drewN UA nq;have Ho:=ah (Oc.O.below (below_drewN (aj _ _) nq) Oc.O.lt);clear y0 y1 x0 x1 x2 x3 x4 x5 x6 eP eU;clear e0 e1 e2 e3 okm lm or0 TQ Yx vS or1 lr1 QW Oc h1a UA hw0 hmd;generalize W1.heap.size=wl at Ho ⊢
  generalize (W1.alloc (.cells #[.int .i64 g,.int .i64 a,.int .i64 d,.int .i64 mn] 48)).drewN nq=W4 at Nq hBd Ho ⊢
  obtain⟨⟨y0,y1⟩,x0,x1,x2,x3,x4,x5,x6,eP,eU⟩:=hK.O W4 (Nq);go_wp2_with fail;clear y0 y1 x0 x1 x2 x3 x4 x5 x6 eP eU;refine(ja1 _ _ p s (hV.O _ hBd) hsn.O).mono ?_
  rintro e W5 ⟨_,rfl,⟨V5,rfl,AY⟩,h5⟩;have pq:=(AY).one;have xw:=vG (W5);go_wp2_with (refine dB (.tmp 12) (.tmp 59) dH V5 rfl xw rfl pq (λw6 lM Ib=>?_);refine aW ?_)
  unfold Hid;have sG:=qX Ib;have vT:=lM.lt;clear pq xw Ib;have h56:=h5.trans (sG.mono h5.size);have hx6:=ah (Bx.of lM (AY.below sG));have h06:=Nq.trans (h56.mono Nq.size);have vT:=ah (Ho.O.below h56 Ho.O.lt);have hlw:wl<W4.heap.size:=Ho.O.lt;have hle:w.heap.size<=W4.heap.size:=hBd.size;have hle0:W0.heap.size<=W4.heap.size:=Nq.size;have zZ:W4.heap.size<=W5.heap.size:=h5.size;clear lM AY sG h5 Ho Nq hBd h56;have jts:wl<w6.heap.size:=vT.O.lt;generalize W4.heap.size=aO at hx6 hle hle0 zZ hlw
  generalize W5.heap.size=bx at hx6 zZ ⊢
  have jed:aO<=bx:=zZ;have hcd1:cell (rZ s a g n).on d g=cell s.on d g:=by
   show cell (setCell s.on a g _) d g=_;rw[pR hao hga,ay (by omega)]
  have hw1:IntKind.i64.wrap (cell s.on a g - n)=cell s.on a g - n:=aN _ (by omega)
  have hw2:IntKind.i64.wrap (cell s.on d g+n)=cell s.on d g+n:=aN _ (by omega)
  obtain⟨Ic,con,PE,gr,cr,cur,Ot,Wy,Oa,r0,er,Wx,hbr,rc⟩:=hx6.O.own.Py hao hga;have c0:=hx6.O.cells.1;rw[Ot]at c0
  have er':=ah er;clear Ot er Oa hbr;have m0:=vT.O.cell (j:=0) rfl;have m1:=vT.O.cell (j:=1) rfl;go_wp2_with fail;go_still_tail 13,(by kernel_rfl)
  change wpList _ _ _ _ _ w6.drew;refine GU rfl (.tmp 72) (.tmp 71) rfl rfl (i:=a) (g:=g) (q:=cell s.on a g - n) hx6.O.drew hao hga er'.O rfl rfl (λw7 hx7 Ee=>?_)
  refine fC ?_
  have h07:=h06.drew.trans (Ee.below (B:=W0.heap.size) (λq hq=>by omega) h06.drew.size)
  have zx:=ah (show Bx w7 aO bx 31 [] V5 (rZ s a g n)from hx7)
  have Uy:=ah (Ee.blk (show iV w6.drew wl 48 _ from vT.O) (by omega))
  clear hx7 Ee c0 r0 rc m0 m1 hw1 hx6 h06 er' vT;have jd5:d<(rZ s a g n).on.length:=by show d<(setCell _ _ _ _).length;rw[qh];exact hdo
  have hgd1:g<(fO (rZ s a g n).on d).length:=by show g<(fO (setCell _ _ _ _) d).length;rw[uq];exact hgd
  obtain⟨Ic,con,PE,gr,cr,cur,Ot,Wy,Oa,r0,er,Wx,hbr,rc⟩:=zx.O.own.Py jd5 hgd1;rw[hcd1]at rc
  have c0:=zx.O.cells.1;rw[Ot]at c0
  have hl1:(rZ s a g n).on.length=s.on.length:=qh;have hl2:(fO (rZ s a g n).on d).length=(fO s.on d).length:=uq;rw[hl1]at c0
  rw[hl2]at r0
  have er':=ah er;clear Ot er Oa hbr hl1 hl2;have m0:=Uy.O.cell (j:=0) rfl;have m2:=Uy.O.cell (j:=2) rfl;go_wp2_with fail;go_still_tail 13,(by kernel_rfl)
  change wpList _ _ _ _ _ w7.drew;refine GU rfl (.tmp 85) (.tmp 84) rfl rfl (i:=d) (g:=g) (q:=cell s.on d g+n) zx.O.drew jd5 hgd1 er'.O rfl rfl (λw8 KQ AX=>?_)
  refine fC ?_
  have DY:=h07.drew.trans (AX.below (B:=W0.heap.size) (λq hq=>by omega) h07.drew.size)
  have vP:=ah (show Bx w8 aO bx 31 [] V5 (mv2 s a d g n)by unfold mv2;rw[hcd1];exact KQ)
  clear KQ AX c0 r0 rc m0 m2 hw2 zx h07 er' Uy jd5 hgd1;have hmo:=ah vP.O.own.aF;have c3:=vP.O.cells.2.2.2.1;go_wp2_with fail;clear c3;refine(jlr _ aO _ s.aF i hmo.O hk (by omega)).mono ?_
  rintro e w9 ⟨u,rfl,hu,je,hub⟩;obtain⟨A9,c9,rfl⟩:=hu.isSlice;have wC:=vP.O.own.IQ je hu;have Jk:some bx≠V5.aF.ownBlock:=λhe=>by
   rcases vP.O.own.aF.mQ vP.O.uK.blk (by decide)with h|h
   ·rw[h]at he;cases he
   ·exact h he.symm
  have Hq:=vP.O.uK.grown je Jk;have h09:=DY.grown je DY.size (λr hr=>by have:=(hmo.O.size r hr).1;omega)
  have jai:=ah Hq;have X5:=ah wC;clear hu je hub wC Hq hmo vP DY Jk;go_wp2_with (refine LH rfl (.tmp 92) (.tmp 91) rfl rfl A9 (s.aF.eraseIdx i).length c9 (V:=V5) (cs:=[]) (b:=bx) (by rw[iJ];exact jai.O.blk) X5.O Xp rfl rfl rfl (λw10 Dz xu=>?_);refine aW ?_)
  unfold Hid;have sK:=ah (show Bx w10 aO bx 31 [] {V5 with aF:=.slice A9 (s.aF.eraseIdx i).length c9} (AQ s i n)by rw[<- VK Rx.O];exact Dz)
  have h010:=h09.trans (xu.below (B:=W0.heap.size) (λq hq=>by omega) h09.size)
  have jcd:=hb0.trans (h010.mono hb0.size);clear Dz xu jai X5 h09;generalize ({V5 with aF:=.slice A9 (s.aF.eraseIdx i).length c9}:SV)=V9 at sK
  have fH:=hR.O _ h010;obtain⟨b0,b1,b2,b3,b4,b5,b6⟩:=jk.cells sK.O.uK;have lG:=dK.one sK.O.own;go_wp2_with (refine dB (.tmp 8) (.tmp 93) dH V9 rfl fH rfl lG (λw9 dM je=>?_))
  have wC:=dK.keptBy sK.O.own je fH (by decide) (by decide) (by decide) (by decide) (by decide) (by decide)
  have dN:=Below.gB jcd je;clear b0 b1 b2 b3 b4 b5 b6;go_wp2_with fail;exact jo results50 dM rfl rfl (EZ bK.O (wC.from_ hle) dN)
 ·have hne:(aQ p s !=0)=true:=by simpa using hc
  have bK:=ah (YJ (k:=k) (n:=n) hc);clear hc;have fH:=hR.O _ h1;go_wp2_with (refine dB (.tmp 8) (.tmp 18) dH dH rfl fH rfl rfl (λw9 dM je=>?_))
  have dN:=Below.gB hB1 je;go_wp2_with fail;exact jo results50 dM rfl rfl (jQ bK.O dN)
end Wh
