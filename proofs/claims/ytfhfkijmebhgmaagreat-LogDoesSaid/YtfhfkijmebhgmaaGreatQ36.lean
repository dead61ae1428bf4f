/- Texts of the claim, joined. -/
import Derived.Test.YtfhfkijmebhgmaaGreatQ35
set_option maxHeartbeats 20000000
set_option maxRecDepth 100000
namespace Wh
open Go Go.RowKit Go.Shelf Go.Proofs Tryz
attribute [local go_sem] au dQ dI dX
theorem uU.kept {w w':World} {base b:Nat} {v:Value} {l:List qo} {t:TypeId} {cur:List Value} (h:uU w base v l) (hg:w.grownBy w' (some b)) (hb:dw w b t cur) (h1:34≠t) (h2:44≠t):uU w' base v l:=by
 obtain ⟨ps,e1,e2,e3⟩:=h;exact ⟨ps,e1,e2.kept hg (Own.iD e2 hb h1),fun x hx=>(e3 x hx).kept hg (Own.iD (e3 x hx) hb h2)⟩
theorem uU.at {w:World} {base:Nat} {A:Option Addr} {n c:Nat} {l:List qo} (h:uU w base (.slice A n c) l) {k:Nat} (hk:k<l.length):∃ g A2 c2,A=some ⟨g,0,none⟩∧g<w.heap.size∧w.cell? ⟨g,k*6,none⟩=some (.int .i64 l[k].kind)∧w.cell? ⟨g,k*6+1,none⟩=some (.int .i64 l[k].a)∧
  w.cell? ⟨g,k*6+2,none⟩=some (.int .i64 l[k].b)∧w.cell? ⟨g,k*6+3,none⟩=some (.int .i64 l[k].c)∧w.cell? ⟨g,k*6+4,none⟩=some (.int .i64 l[k].n)∧w.cell? ⟨g,k*6+5,none⟩=some (.slice A2 l[k].lines.length c2)∧Own eP 4 44 w base (.slice A2 l[k].lines.length c2) l[k].lines:=by
 obtain ⟨ps,e1,e2,e3⟩:=h;subst e1;have hk':k<ps.length:=by simpa using hk
 obtain ⟨g,c',cur,h1,_,h3,h4⟩:=e2.at (fun _=>rfl) hk'
 injection h1 with h1 _ _
 have h5:=e3 _ (eF hk');obtain ⟨A2,c2,h6⟩:=h5.isSlice;have e:(ps.map (·.1))[k]=ps[k].1:=by rw [PL]
 rw [h6] at h5
 have h7:=h4 5 _ rfl;rw [h6] at h7
 simp only [e];exact ⟨g,A2,c2,h1,h3.lt,h4 0 _ rfl,h4 1 _ rfl,h4 2 _ rfl,h4 3 _ rfl,h4 4 _ rfl,h7,h5⟩
theorem jhe (w:World) (p:Plan) (Ab:Option Addr) (cb:Nat) (As:Option Addr) (cs:Nat):∃ W0:World,(w.alloc (.cells #[.slice Ab p.aH.length cb,.slice As p.sizes.length cs] 25)).alloc (.cells #[.slice none 0 0,.slice none 0 0,.slice none 0 0,.slice none 0 0,.slice none 0 0,.slice none 0 0,.slice none 0 0] 31)=W0∧Below w.heap.size w W0∧
  dw W0 w.heap.size 25 [.slice Ab p.aH.length cb,.slice As p.sizes.length cs]∧dN W0 (w.heap.size+1) aP∧W0.heap.size=w.heap.size+1+1:=by
 have h1:dw (w.alloc (.cells #[.slice Ab p.aH.length cb,.slice As p.sizes.length cs] 25)) w.heap.size 25 [.slice Ab p.aH.length cb,.slice As p.sizes.length cs]:=dw.new _ _ _;have h2:=dw.new (w.alloc (.cells #[.slice Ab p.aH.length cb,.slice As p.sizes.length cs] 25)) 31 #[.slice none 0 0,.slice none 0 0,.slice none 0 0,.slice none 0 0,.slice none 0 0,.slice none 0 0,.slice none 0 0];rw [fP] at h2
 exact ⟨_,rfl,((aj _ _).alloc (aA _) _).alloc (by simp) _,h1.alloc _,h2,by simp⟩
theorem ZL {p:Plan} {l:List qo} {s:State} {k:Nat} (hk:k<l.length):qL p (l.take (k+1)) s=if (act p (qL p (l.take k) s) l[k]).2=0 then (act p (qL p (l.take k) s) l[k]).1 else qL p (l.take k) s:=by
 rw [take_snoc hk,JK];rfl
theorem Hq:∀ (m:Nat) (t:List Nat),(nM t m).length=m
 |0,_=>rfl
 |m+1,t=>by rw [nM,gQ,Hq m]
theorem LP:∀ (n:Nat) (t:List Nat),∀ x∈(replay n t).1,x.lines.length≤3
 |0,_,x,h=>by cases h
 |n+1,t,x,h=>by
  by_cases h0:kS t=0
  ·rw [Hf (.inr h0)] at h
   cases h
  ·rw [NU h0] at h
   rcases nY.1 h with rfl|h
   ·show (nM _ _).length≤3;rw [Hq];exact (jcd h0).2.2
   ·exact LP n _ x h
theorem TB {t:List Nat} {l:List qo} {a b:Int} (h:mX t=(l,a,b)):∀ x∈l,x.lines.length≤3:=fun x hx=>by
 unfold mX at h
 split at h
 ·injection h with h1 h2
  subst h1;cases hx
 ·injection h with h1 h2
  subst h1;exact LP 60 t x hx
theorem Yk {t:List Nat} {l:List qo} {a b:Int} (h:mX t=(l,a,b)):l.length≤60:=by
 unfold mX at h
 split at h
 ·injection h with h1 h2
  subst h1;simp
 ·injection h with h1 h2
  subst h1;exact (Qu 60 t).1
def ji6 (p:Plan) (t:List Nat) (w:World) (e:Ending) (w':World):Prop:=
 ∃ V,e=.returned (.tuple #[V.val,.int .i64 (rY p t).2.1,.int .i64 (rY p t).2.2])∧aO w' w.heap.size V (rY p t).1∧Below w.heap.size w w'
theorem jdq (w:World) (v:Value) (p:Plan) (t:List Nat) (hp:fZ w w.heap.size v p) (hb:∀ n∈t,n<256):Calls prog 33 #[v,.string (kR t)] w (ji6 p t w):=by
 obtain ⟨Ab,cb,As,cs,rfl,hP',hBn,hSz,hlb,hls⟩:=kN hp;have hb':=Lib.hid hb;clear hb hp;go_enter func33,ntmps33
 go_wp2_with fail;obtain ⟨W0,hW0,hb0,hpl,hbx,hsz0⟩:=jhe w p Ab cb As cs;rw [hW0];clear hW0;have y0:=hpl.cell (j:=0) rfl;have y1:=hpl.cell (j:=1) rfl;have lpl:=hpl.lt;go_wp2_with fail;clear y0 y1;refine (I8 _ _ p (hP'.out _ hb0)).mono ?_
 rintro e W1 ⟨rfl,h1⟩;have jkG:=Lib.hid (hpl.below h1 hpl.lt);have Ku:=Lib.hid (hbx.below h1 hbx.lt);have hB1:=hb0.trans (h1.mono hb0.size);have hs1:=h1.size;clear hpl hbx hb0 h1;by_cases hz:bK p=0
 ·rw [hz];go_wp2_with fail;refine (YR W1 t hb'.out).mono ?_
  rintro e W2 ⟨vl,rfl,hA2,h2⟩;have hpl2:=Lib.hid (jkG.out.below h2 jkG.out.lt);have hbx2:=Lib.hid (Ku.out.below h2 Ku.out.lt);have hB2:=hB1.trans (h2.mono hB1.size);obtain ⟨Al,cl,rfl⟩:=hA2.isSlice;have jiG:=Lib.hid (hA2.from_ hB1.size);have hs2:=h2.size;clear jkG Ku hB1 hA2 h2;obtain ⟨l,ln,lc,hre⟩:∃ l ln lc,mX t=(l,ln,lc):=⟨_,_,_,rfl⟩;rw [hre] at jiG ⊢
  simp only at jiG ⊢
  have hl3:=Lib.hid (TB hre);have hl60:=Yk hre;by_cases hlc:lc=0
  ·subst hlc;have hfin:=Lib.hid (show rY p t=(qL p l (begin p),(l.length:Int),0) by
    unfold rY;rw [ah (fun h=>h hz),hre]
    rfl)
   have hrt:=Lib.hid (Z9 hz);have y0:=hpl2.out.cell (j:=0) rfl;have y1:=hpl2.out.cell (j:=1) rfl;have hz':=Lib.hid hz;clear hre hz;go_wp2_with fail;clear y0 y1;refine (jj6 _ _ p (hP'.out _ hB2)).mono ?_
   rintro e W3 ⟨V0,rfl,ho3,h3⟩;rw [ak hz'.out] at ho3
   rw [hz'.out];have Y9:=(ho3).one;have jfV:=pV (W3);go_wp2_with (refine aK (.tmp 11) (.tmp 36) aP V0 rfl jfV rfl Y9 (fun w4 Ro hg4=>?_);refine aU ?_)
   unfold Hid;have jbJ:=jK hg4;have zA:=Ro.lt;clear Y9 jfV hg4;have h24:=h3.trans (jbJ.mono h3.size);have jnQ:=Lib.hid (hpl2.out.below h24 hpl2.out.lt);have Zh:=Lib.hid (hbx2.out.below h24 hbx2.out.lt);have hA4:=Lib.hid (jiG.out.below h24);have hB4:=hB2.trans (h24.mono hB2.size);have OG:=Lib.hid ((ho3.below jbJ).from_ hB2.size);have Rn:=Lib.hid Ro;have hlx:w.heap.size+1<W3.heap.size:=by have:=h3.size;omega
   clear hpl2 hbx2 jiG hB2 h24 h3 ho3 jbJ Ro zA;generalize W3.heap.size=bx at Rn hlx ⊢
   go_wp2_with fail;go_loopw [40] (fun i wr=>∃ (k:Nat) (V:SV),k≤l.length∧i=.int .i64 k∧dN wr bx V∧aO wr w.heap.size V (qL p (l.take k) (begin p))∧dw wr w.heap.size 25 [.slice Ab p.aH.length cb,.slice As p.sizes.length cs]∧dN wr (w.heap.size+1) aP∧uU wr w.heap.size (.slice Al l.length cl) l∧Below w.heap.size w wr) (fun i _=>l.length - (RowKit.intOf i).toNat)
   case atStart=>exact ⟨0,V0,aT _,rfl,Rn.out,OG.out,jnQ.out,Zh.out,hA4.out,hB4⟩
   case round=>
    clear Rn OG jnQ Zh hA4 hB4;obtain ⟨k,V,hk,rfl,hbox,ho,hpl,hbx,hA,hBr⟩:=hrel;have jcP:=Lib.hid hbox;have ho':=Lib.hid ho;have hpl':=Lib.hid hpl;have xg:=Lib.hid hbx;have hA':=Lib.hid hA;have jk9:checkState p (qL p (l.take k) (begin p))=0:=MP hrt.out;have hchk':=Lib.hid jk9;have hsm:=Lib.hid (Ov jk9);obtain ⟨sk,hsk⟩:∃ sk,qL p (l.take k) (begin p)=sk:=⟨_,rfl⟩;rw [hsk] at hsm ho'
    have hsk':=Lib.hid hsk;clear hbox ho hpl hbx hA jk9 hsk;have lbx:=jcP.out.lt;have lpl:=hpl'.out.lt;obtain ⟨b0,b1,b2,b3,b4,b5,b6⟩:=jcP.out.cells;by_cases hlt:k<l.length
    ·have hki:(k:Int)<(l.length:Int):=by omega
     have y0:=hpl'.out.cell (j:=0) rfl;have y1:=hpl'.out.cell (j:=1) rfl;obtain ⟨g,A2,c2,rfl,hgl,f0,f1,f2,f3,f4,f5,hOl⟩:=hA'.out.at hlt
     have hdn:=ZL (p:=p) (s:=begin p) hlt;rw [hsk'.out] at hdn
     obtain ⟨x,hx⟩:∃ x,l[k]=x:=⟨_,rfl⟩;rw [hx] at f0 f1 f2 f3 f4 f5 hOl hdn
     obtain ⟨s1,c1,hact⟩:∃ s1 c1,act p sk x=(s1,c1):=⟨_,_,rfl⟩;rw [hact] at hdn
     have jir:=Lib.hid hdn;have jgy:=Lib.hid hact;have joG:=Lib.hid hOl;have hx':=Lib.hid hx;clear hx hdn hact hOl;go_wp2_with fail;clear f0 f1 f2 f3 f4 f5 y0 y1 b0 b1 b2 b3 b4 b5 b6;have hal:Below wr.heap.size wr (wr.alloc (.cells #[.int .i64 x.kind,.int .i64 x.a,.int .i64 x.b,.int .i64 x.c,.int .i64 x.n,.slice A2 x.lines.length c2] 34)):=(aj _ _).alloc (aA _) _;generalize wr.alloc (.cells #[.int .i64 x.kind,.int .i64 x.a,.int .i64 x.b,.int .i64 x.c,.int .i64 x.n,.slice A2 x.lines.length c2] 34)=Wa at hal ⊢
     have hBa:=hBr.trans (hal.mono hBr.size);have hx3:x.lines.length≤3:=by rw [← hx'.out];exact hl3.out _ (eF hlt)
     refine (jko Wa _ _ _ p sk x (hP'.out _ hBa) ((ho'.out.below hal).view0 hsm.out) ⟨_,rfl,(joG.out.below hal).sl (by omega)⟩).mono ?_
     rintro e W5 ⟨V1,rfl,qK,h5⟩;rw [jgy.out] at qK
     rw [jgy.out];simp only at qK ⊢
     have jc:=(qK).one;have nK:=pV (W5);go_wp2_with (refine aK (.tmp 15) (.tmp 49) aP V1 rfl nK rfl jc (fun w6 fH zO=>?_);refine aU ?_)
     unfold Hid;have jO:=jK zO;have lQ:=fH.lt;clear jc nK zO;have h56:=(hal.trans (h5.mono hal.size)).trans (jO.mono (bJ hal.size h5.size));have hb6:=Lib.hid (jcP.out.below h56 lbx);have ho6:=Lib.hid (ho'.out.below h56);have jkF:=Lib.hid (hpl'.out.below h56 lpl);have jbB:=Lib.hid (xg.out.below h56 xg.out.lt);have hA6:=Lib.hid (hA'.out.below h56);have O7:=hBr.trans (h56.mono hBr.size);have hV6:=Lib.hid ((qK.below jO).from_ hBa.size);have Kv:=Lib.hid fH;have hnb:bx<W5.heap.size:=by have:=h5.size;have:=hal.size;omega
     clear jcP ho' hpl' xg hA' hal hBa h5 h56 fH qK jO joG jgy hx' hx3;by_cases hc1:c1=0
     ·subst hc1;obtain ⟨q0,q1,q2,q3,q4,q5,q6⟩:=Kv.out.cells;have hone:=hV6.out.one;go_wp2_with (refine aK (.tmp 11) (.tmp 53) V V1 rfl hb6.out rfl hone (fun w7 zQ O5=>?_);refine aU ?_)
      unfold Hid;have hV7:=Lib.hid (show aO w7 w.heap.size V1 (qL p (l.take (k+1)) (begin p)) by
       rw [jir.out,ak bP];exact hV6.out.keptBy O5 hb6.out.blk (by decide) (by decide) (by decide) (by decide) (by decide) (by decide))
      have jqc:=Lib.hid (jkF.out.grown O5 (by intro he;injection he with he;omega))
      have jqL:=Lib.hid (jbB.out.grown O5 (by intro he;injection he with he;omega))
      have hA7:=Lib.hid (hA6.out.kept O5 hb6.out.blk (by decide) (by decide))
      have hB7:=O7.grown O5 O7.size (fun j hj=>by injection hj with hj;omega)
      have jlb:=Lib.hid zQ;clear q0 q1 q2 q3 q4 q5 q6 zQ O5 hb6 ho6 jkF jbB hA6 O7 hV6 Kv jir hone;go_wp2_with fail;go_roundw
      case rel=>exact ⟨k+1,V1,by omega,by go_num,jlb.out,hV7.out,jqc.out,jqL.out,hA7.out,hB7⟩
      case measure=>simp [RowKit.intOf];omega
     ·have hc1':(c1==0)=false:=by simpa using hc1
      have hV7:=Lib.hid (show aO w6 w.heap.size V (qL p (l.take (k+1)) (begin p)) by
       rw [jir.out,ah hc1];exact ho6.out)
      clear hc1 jir ho6 hV6 Kv;go_wp2_with fail;go_roundw
      case rel=>exact ⟨k+1,V,by omega,by go_num,hb6.out,hV7.out,jkF.out,jbB.out,hA6.out,O7⟩
      case measure=>simp [RowKit.intOf];omega
    ·obtain rfl:k=l.length:=by omega
     rw [jE] at hsk'
     have eU:=aO.one ho'.out;go_wp2_with (refine aK (.tmp 4) (.tmp 55) aP V rfl xg.out rfl eU (fun w9 aN dh=>?_))
     have ng:=aO.keptBy ho'.out dh xg.out.blk (by decide) (by decide) (by decide) (by decide) (by decide) (by decide)
     obtain ⟨p0,p1,p2,p3,p4,p5,p6⟩:=dN.cells aN;have aQ:=Below.bG hBr dh;clear b0 b1 b2 b3 b4 b5 b6;go_wp2_with fail;exact jS (v:=.tuple #[V.val,.int .i64 l.length,.int .i64 0]) (by simp [results,results33,go_sem,SV.val,p0,p1,p2,p3,p4,p5,p6]) rfl ⟨V,by rw [hfin.out],by rw [hfin.out,hsk'.out];exact ng,aQ⟩
  ·have hne:(lc!=0)=true:=by simpa using hlc
   have hfin:=Lib.hid (show rY p t=(dJ,0,lc) by
    unfold rY;rw [ah (fun h=>h hz),hre,ak hlc])
   clear hlc hre;go_wp2_with (refine aK (.tmp 4) (.tmp 31) aP aP rfl hbx2.out rfl rfl (fun w9 aN dh=>?_))
   obtain ⟨p0,p1,p2,p3,p4,p5,p6⟩:=dN.cells aN;have aQ:=Below.bG hB2 dh;go_wp2_with fail;exact jS (v:=.tuple #[aP.val,.int .i64 0,.int .i64 lc]) (by simp [results,results33,go_sem,SV.val,p0,p1,p2,p3,p4,p5,p6]) rfl ⟨aP,by rw [hfin.out],by rw [hfin.out];exact aO.zero _ _,aQ⟩
 ·have hne:(bK p!=0)=true:=by simpa using hz
  have hfin:=Lib.hid (show rY p t=(dJ,0,bK p) by unfold rY;rw [ak hz])
  clear hz;go_wp2_with (refine aK (.tmp 4) (.tmp 21) aP aP rfl Ku.out rfl rfl (fun w9 aN dh=>?_))
  obtain ⟨p0,p1,p2,p3,p4,p5,p6⟩:=dN.cells aN;have aQ:=Below.bG hB1 dh;go_wp2_with fail;exact jS (v:=.tuple #[aP.val,.int .i64 0,.int .i64 (bK p)]) (by simp [results,results33,go_sem,SV.val,p0,p1,p2,p3,p4,p5,p6]) rfl ⟨aP,by rw [hfin.out],by rw [hfin.out];exact aO.zero _ _,aQ⟩
end Wh
namespace Wh
open Go Go.RowKit Go.Shelf Go.Proofs Tryz
attribute [local go_sem] au dQ dI dX
theorem Oz (a b:List Nat):kR a++kR b=kR (a++b):=by
 unfold kR;rw [jl];apply ByteArray.ext;simp
def L8:List Nat:=[1,1,0,0,5,0]
def L6:List Nat:=[2,0,0,0,0,1,1,9,0,0]
theorem jpf:BD ⟨1,1,0,0,5,[]⟩=(L8,0):=by decide+kernel
theorem jpe:BD ⟨2,0,0,0,0,[⟨1,9,0,0⟩]⟩=(L6,0):=by decide+kernel
theorem jpd:BD ⟨0,0,0,0,256,[]⟩=([],3):=by decide+kernel
theorem jpi:(mX (L8++L6++[1])).1.length=2:=by decide+kernel
theorem jph:(mX (L8++L6++[1])).2=(16,0):=by decide+kernel
theorem jpj:∀ n∈L8++L6++[1],n<256:=by decide+kernel
theorem jlN:∀ n∈L8++L6,n<256:=by decide+kernel
def lgS:State:=(rY NR (L8++L6)).1
theorem jlM:rY NR (L8++L6)=(lgS,2,0):=Prod.ext rfl (by decide+kernel)
theorem jfe:lgS.on.length=3:=by decide+kernel
theorem jcE:(rowAt lgS.on 1).length=2:=by decide+kernel
theorem jff:cell lgS.on 1 0=5:=by decide+kernel
theorem ja9:lgS.orders.length=1:=by decide+kernel
theorem jpk:act NR SL ⟨0,0,0,0,0,[]⟩=(dJ,8):=by decide+kernel
theorem jfd (w:World):Calls prog 15 #[] w fun e w'=>e=.returned (.bool true)∧Below w.heap.size w w':=by
 go_enter func15,ntmps15
 go_wp2_with fail;refine (Wn w _ ⟨1,1,0,0,5,[]⟩ ⟨_,rfl,Sl.nil⟩ (by simp)).mono ?_
 rintro e W1 ⟨rfl,h1⟩;rw [jpf];go_wp2_with fail;have h2a:Below W1.heap.size W1 (W1.alloc (.cells #[.int .i64 1,.int .i64 9,.int .i64 0,.int .i64 0] 44)):=(aj _ _).alloc (aA _) _;have hl2:Sl eP (W1.alloc (.cells #[.int .i64 1,.int .i64 9,.int .i64 0,.int .i64 0] 44)) (W1.alloc (.cells #[.int .i64 1,.int .i64 9,.int .i64 0,.int .i64 0] 44)).heap.size (.slice (some ⟨W1.heap.size,0,none⟩) 1 1) [⟨1,9,0,0⟩]:=
  (Own.lit (enc:=eP) (size:=4) (base:=W1.heap.size) W1 44 #[.int .i64 1,.int .i64 9,.int .i64 0,.int .i64 0] [(⟨1,9,0,0⟩:Line)] (aA _) (by simp) (fun _=>rfl) rfl).sl (by simp)
 generalize W1.alloc (.cells #[.int .i64 1,.int .i64 9,.int .i64 0,.int .i64 0] 44)=Wa at h2a hl2 ⊢
 refine (Wn Wa _ ⟨2,0,0,0,0,[⟨1,9,0,0⟩]⟩ ⟨_,rfl,hl2⟩ (by simp)).mono ?_
 rintro e W2 ⟨rfl,h2⟩;rw [jpe];have hB2:=h1.trans ((h2a.trans (h2.mono h2a.size)).mono h1.size);clear h1 h2a h2 hl2;have e1:kR L8++kR L6=kR (L8++L6):=Oz _ _;have e2:kR (L8++L6)++(ByteArray.mk #[1])=kR (L8++L6++[1]):=by rw [← Oz];rfl
 go_wp2_with fail;refine (YR W2 (L8++L6++[1]) jpj).mono ?_
 rintro e W3 ⟨vl,rfl,hA3,h3⟩;obtain ⟨Al,cl,rfl⟩:=hA3.isSlice;rw [jpi,jph];have hB3:=hB2.trans (h3.mono hB2.size);clear hA3 h3 hB2;go_wp2_with fail;refine (jjh _).mono ?_
 rintro e W4 ⟨u4,rfl,hu4,h4⟩;have hB4:=hB3.trans (h4.mono hB3.size);clear h4 hB3;go_wp2_with fail;refine (jdq W4 _ NR (L8++L6) hu4 jlN).mono ?_
 rintro e W5 ⟨V5,rfl,qK,h5⟩;rw [jlM] at qK ⊢
 simp only at qK ⊢
 have jc:=(qK).one;have nK:=pV (W5);go_wp2_with (refine aK (.tmp 8) (.tmp 42) aP V5 rfl nK rfl jc (fun w6 fH zO=>?_);refine aU ?_)
 unfold Hid;have jO:=jK zO;have lQ:=fH.lt;clear jc nK zO;have O7:=hB4.trans ((h5.trans (jO.mono h5.size)).mono hB4.size);have ho6:=Lib.hid (qK.below jO);have Kv:=Lib.hid fH;clear qK jO fH h5 hB4 hu4;generalize W5.heap.size=b8 at Kv lQ ⊢
 go_wp2_with fail;refine (Wn w6 _ ⟨0,0,0,0,256,[]⟩ ⟨_,rfl,Sl.nil⟩ (by simp)).mono ?_
 rintro e W7 ⟨rfl,h7⟩;rw [jpd];have hB7:=O7.trans (h7.mono O7.size);have zN:=Lib.hid (ho6.out.below h7);have zQ:=Lib.hid (Kv.out.below h7 lQ);clear O7 ho6 Kv h7 lQ;go_wp2_with fail;refine (jjh _).mono ?_
 rintro e W8 ⟨u8,rfl,hu8,h8⟩;go_wp2_with fail;refine (jnp _).mono ?_
 rintro e W9 ⟨V9,rfl,zD,h9⟩;go_wp2_with fail;refine (jko W9 _ _ _ NR SL ⟨0,0,0,0,0,[]⟩ (hu8.grow h9) (zD.view0 (by decide)) ⟨_,rfl,Sl.nil⟩).mono ?_
 rintro e W10 ⟨V10,rfl,TR,h10⟩;rw [jpk] at TR ⊢
 simp only at TR ⊢
 have jfP:=(TR).one;have jju:=pV (W10);go_wp2_with (refine aK (.tmp 13) (.tmp 55) aP V10 rfl jju rfl jfP (fun w11 jgo jdI=>?_);refine aU ?_)
 unfold Hid;have jjI:=jK jdI;have jol:=jgo.lt;clear jfP jju jdI;have jiH:=h8.trans ((h9.trans ((h10.trans (jjI.mono h10.size)).mono h9.size)).mono h8.size);have hB:=hB7.trans (jiH.mono hB7.size);have hA:=zN.out.below jiH;have hbA:=zQ.out.below jiH zQ.out.lt;clear zN zQ jiH hB7 h8 h9 h10 jjI jgo jol TR zD hu8;obtain ⟨pA0,pA1,_,_,_,_,_⟩:=hbA.cells;obtain ⟨zS,con,Ju,gr,cr,cur,Ip,_,_,r0,_,_,_,rc⟩:=hA.Jr (b:=1) (g:=0) (by rw [jfe];decide) (by rw [jcE];decide)
 rw [jfe] at Ip
 rw [jcE] at r0
 rw [jff] at rc
 rw [Ip] at pA0
 obtain ⟨Ao,co,vO⟩:=hA.vW;rw [ja9] at vO
 rw [vO] at pA1
 have q1:(kR L8).toList=(ByteArray.mk #[1,1,0,0,5,0]).toList:=by rw [P5,P5];rfl
 have q2:(kR L6).size=10:=by rw [Jm];rfl
 clear hA hbA Ip vO e1 e2;go_wp2_with fail;go_ret
 exact ⟨rfl,hB⟩
end Wh
namespace Wh
open Go Go.RowKit Go.Shelf Go.Proofs Tryz
attribute [local go_sem] au dQ dI dX
def jg (s:State) (i k:Nat):List Hold:=(s.holds.take k).filter fun h=>decide (h.order≠(i:Int))
theorem VT {s:State} {i k:Nat} (hk:k<s.holds.length) (h:(hold s.holds k).order≠(i:Int)):jg s i (k+1)=jg s i k++[hold s.holds k]:=by
 unfold jg;rw [bV hk] at h ⊢
 exact zF hk _ (by simpa using h)
theorem YA {s:State} {i k:Nat} (hk:k<s.holds.length) (h:(hold s.holds k).order=(i:Int)):jg s i (k+1)=jg s i k:=by
 unfold jg;rw [bV hk] at h
 exact wR hk _ (by simpa using h)
theorem VW (s:State) (i:Nat):jg s i s.holds.length=s.holds.filter fun h=>decide (h.order≠(i:Int)):=by unfold jg;rw [jE]
theorem VU (s:State) (i k:Nat):(jg s i k).length≤s.holds.length:=by
 unfold jg;have h1:=yR (fun h:Hold=>decide (h.order≠(i:Int))) (s.holds.take k)
 rw [dS] at h1
 omega
def X7 (s:State) (l:List Hold):State:={s with holds:=l}
theorem jdm (w:World) (v vs:Value) (p:Plan) (s:State) (o:Int) (hp:fZ w w.heap.size v p) (hv:fE w w.heap.size vs s):
  Calls prog 54 #[v,vs,.int .i64 o] w (gU (cancel p s o) w):=by
 obtain ⟨Ab,cb,As,cs,rfl,hP',hBn,hSz,hlb,hls⟩:=kN hp;obtain ⟨A0,c0,A1,c1,A2,c2,A3,c3,A4,c4,A5,c5,A6,c6,rfl,hV,hN,hO,hH,hM,hI,hU,hX,hl0,hl1,hl2,hl3,hl4,hl5,CW⟩:=iG hv;go_enter func54,ntmps54
 go_wp2_with fail;obtain ⟨W0,hW0,hb0,hsz0,hsz1,hsE,hK,hR⟩:=oH w p s Ab cb As cs A0 c0 A1 c1 A2 c2 A3 c3 A4 c4 A5 c5 A6 c6;rw [hW0];clear hW0;obtain ⟨⟨y0,y1⟩,x0,x1,x2,x3,x4,x5,x6,aV,aW⟩:=hK.out W0 (aj W0.heap.size W0);go_wp2_with fail;clear y0 y1 x0 x1 x2 x3 x4 x5 x6 aV aW;refine (qw _ _ _ p s (hP'.out _ hb0) (hV.out _ hb0)).mono ?_
 rintro e W1 ⟨rfl,h1⟩;have hB1:=hb0.trans (h1.mono hb0.size);obtain ⟨⟨y0,y1⟩,x0,x1,x2,x3,x4,x5,x6,aV,aW⟩:=hK.out W1 (h1);by_cases hc:checkState p s=0
 ·have hc':=Lib.hid hc;have hsn:=Lib.hid (dV.1 hc).1;have h4:=hsn.out.jh;rw [hc];clear hc;have hw4:IntKind.i64.wrap ((s.orders.length:Int) - 1)=(s.orders.length:Int) - 1:=bf _ (by omega)
  cases g1:within o 0 ((s.orders.length:Int) - 1)
  ·have hfin:=Lib.hid (IJ (o:=o) hc'.out (by have:=gY.1 g1;omega))
   go_wp2_with fail;refine (wQ g1 _).mono ?_
   rintro e w' ⟨rfl,rfl⟩;clear g1;have aX:=hR.out _ h1;go_wp2_with (refine aK (.tmp 6) (.tmp 26) aP aP rfl aX rfl rfl (fun w9 aN dh=>?_))
   have aQ:=Below.bG hB1 dh;go_wp2_with fail;exact dn results54 aN rfl rfl (dF hfin.out aQ)
  have g1':=within_iff.1 g1;obtain ⟨i,rfl⟩:∃ i:Nat,o=i:=⟨o.toNat,by omega⟩
  have hi:i<s.orders.length:=by omega
  have hi':(i:Int)<s.orders.length:=by omega
  go_wp2_with fail;refine (wQ g1 _).mono ?_
  rintro e w' ⟨rfl,rfl⟩;clear g1 g1' hw4;obtain ⟨Al,cl,ol,ll,d0,d1,hsl⟩:=(hO.out W1 hB1).order hi;change W1.cell? _=some (Value.int IntKind.i64 (s.order i).kind) at d0
  by_cases hk:(s.order i).kind=2
  ·have hfin:=Lib.hid (Ox hc'.out hi hk);rw [hk] at d0
   clear hk;have aX:=hR.out _ h1;go_wp2_with (refine aK (.tmp 6) (.tmp 34) aP aP rfl aX rfl rfl (fun w9 aN dh=>?_))
   have aQ:=Below.bG hB1 dh;go_wp2_with fail;exact dn results54 aN rfl rfl (dF hfin.out aQ)
  have hfin:=Lib.hid (Vg hc'.out hi hk);have hq:((s.order i).kind==2)=false:=by simpa using hk
  clear hk;go_wp2_with fail;clear y0 y1 x0 x1 x2 x3 x4 x5 x6 aV aW;clear d0 d1 hsl hq;refine (vS _ _ p s (hV.out _ hB1) hsn.out).mono ?_
  rintro e W5 ⟨_,rfl,⟨V5,rfl,qK⟩,h5⟩;have jc:=(qK).one;have nK:=pV (W5);go_wp2_with (refine aK (.tmp 9) (.tmp 36) aP V5 rfl nK rfl jc (fun w6 fH zO=>?_);refine aU ?_)
  unfold Hid;have jO:=jK zO;have lQ:=fH.lt;clear jc nK zO;have hx6:=Lib.hid (Bx.of fH (qK.below jO));have h06:=h1.trans ((h5.trans (jO.mono h5.size)).mono h1.size);have hle:w.heap.size≤W1.heap.size:=hB1.size;have hle0:W0.heap.size≤W1.heap.size:=h1.size;have qp:W1.heap.size≤W5.heap.size:=h5.size;clear fH qK jO h5 lQ h1 hB1;generalize W1.heap.size=base at hx6 hle hle0 qp
  generalize W5.heap.size=bx at hx6 qp ⊢
  obtain ⟨Ao,co,hvo⟩:=hx6.out.own.vW;have yt:=Lib.hid hvo;clear hvo;have h72:=jJ hsn.out.holds;go_wp2_with (refine zU rfl (.tmp 37) (.const (.slice none 0 0)) rfl rfl none 0 0 (V:=V5) (V':={V5 with holds:=.slice none 0 0}) (s':={s with holds:=[]}) (cs:=[]) (b:=bx) (by rw [mJ];exact hx6.out.kW.blk) (hx6.out.own.je8 (aj _ _) Own.nil) SN rfl rfl rfl (fun w8 EF qJ=>?_);refine aU ?_)
  unfold Hid;have ug:=h06.trans (qJ.below (B:=W0.heap.size) (fun q hq=>by omega) h06.size)
  have EF:Bx w8 base bx 31 [] {V5 with holds:=.slice none 0 0} (X7 s (jg s i 0)):=EF
  have lN:=Lib.hid EF;clear EF qJ hx6 h06;go_wp2_with fail;go_loopw [10] (fun j wr=>∃ (k:Nat) (V:SV),V={V5 with holds:=V.holds}∧k≤s.holds.length∧j=.int .i64 k∧Bx wr base bx 31 [] V (X7 s (jg s i k))∧Below W0.heap.size W0 wr) (fun j _=>s.holds.length - (intOf j).toNat)
  case atStart=>exact ⟨0,_,rfl,aT _,rfl,lN.out,ug⟩
  case round=>
   clear lN ug;obtain ⟨k,V,Xo,hkl,rfl,hx,h0⟩:=hrel;have hx':=Lib.hid hx;have DW:=Lib.hid Xo;clear hx Xo;obtain ⟨⟨y0,y1⟩,x0,x1,x2,x3,x4,x5,x6,aV,aW⟩:=hK.out wr (h0);by_cases hkt:k<s.holds.length
   ·have hki:(k:Int)<(s.holds.length:Int):=by omega
    have hB0:=hb0.trans (h0.mono hb0.size);obtain ⟨jkH,NC,q0,q1,q2,q3⟩:=(hH.out wr hB0).at_.hold hkt;by_cases hne:(hold s.holds k).order=(i:Int)
    ·have hq:((hold s.holds k).jkd=(i:Int))=false:=by simpa using hne
     have hx2:=Lib.hid (show Bx wr base bx 31 [] V (X7 s (jg s i (k+1))) by rw [YA hkt hne];exact hx'.out)
     clear hne;go_wp2_with fail;go_roundw
     case rel=>exact ⟨k+1,V,DW.out,by omega,by go_num,hx2.out,h0⟩
     case measure=>simp [intOf];omega
    ·have hq:((hold s.holds k).jkd=(i:Int))=true:=by simpa using hne
     have hyes:=Lib.hid (VT hkt hne);have hol:=Lib.hid (VU s i k);obtain ⟨Ah,ch,hvh⟩:=hx'.out.own.holds.isSlice;have jfx:=Lib.hid (show V.holds=.slice Ah (jg s i k).length ch from hvh)
     have hrow:=Lib.hid (fun r (hr:V.holds.ownBlock=some r)=>hx'.out.own.holds.size r hr)
     have hbs:base≤wr.heap.size:=by have:=hx'.out.lt;omega
     have hTB:=Lib.hid (fun w' (hT:wr.grownBy w' V.holds.ownBlock)=>(h0.grown hT h0.size (fun r hr=>by have:=(hrow.out r hr).1;omega):Below W0.heap.size W0 w'))
     have Ce:=Lib.hid (show some bx≠V.holds.ownBlock from fun he=>by
      rcases hx'.out.own.holds.iD hx'.out.kW.blk (by decide) with h|h
      ·rw [h] at he;cases he
      ·exact h he.symm)
     have hnew:=Lib.hid (fun g (hg:wr.heap.size≤g)=>(show some g≠V.holds.ownBlock from fun he=>by have:=(hrow.out g he.symm).2;omega))
     have hh4:=Lib.hid (fun w' (hB:Below W0.heap.size W0 w')=>(show _ from (hH.out w' (hb0.trans (hB.mono hb0.size))).at_.hold hkt))
     have jjq:=Lib.hid jkH;clear hne hvh;go_wp2_with fail;clear y0 y1 x0 x1 x2 x3 x4 x5 x6 aV aW;clear q0 q1 q2 q3 hq NC jkH;refine wP 10 (fun w'=>wr.grownBy w' V.holds.ownBlock) (fun w'=>Below wr.heap.size wr w') (fun w1 w2=>w1.grownBy w2 V.holds.ownBlock) 8 [
      fun g _=>g 53=.pointer (some ⟨bx,2,none⟩),fun g _=>g 54=.slice Ah (jg s i k).length ch,fun g _=>g 55=.pointer (some ⟨w.heap.size+1,2,none⟩),fun g _=>g 56=.slice A2 s.holds.length c2,
      fun g _=>g 57=.int .i64 k,fun g _=>g 58=.pointer (some ⟨dD A2,jy A2+k*4,none⟩),fun g _=>g 59=.agg #[.int .i64 (hold s.holds k).order,.int .i64 (hold s.holds k).line,.int .i64 (hold s.holds k).bin,.int .i64 (hold s.holds k).n],
      fun g w'=>(fun v w'=>∃ b,v=.slice (some ⟨b,0,none⟩) 1 1∧wr.heap.size≤b∧dw w' b 46 [.int .i64 (hold s.holds k).order,.int .i64 (hold s.holds k).line,.int .i64 (hold s.holds k).bin,.int .i64 (hold s.holds k).n]) (g 60) w',
      fun g w'=>Own bM 4 46 w' base (g 61) (jg s i k++[hold s.holds k]),
      fun g _=>g 62=.pointer (some ⟨bx,2,none⟩)] (by kernel_rfl) (by kernel_rfl) rfl (by kernel_rfl)
      (fun w1 w2 h hb=>Du h (gZ hb)) (fun w1 w2 h h'=>Du h h') (fun w1 w2 h hb=>h.trans (hb.mono h.size)) (gZ (aj _ _).drew) (aj _ _).drew ?_ (fun f w2 hT hR=>?_)
     ·simp only [eY,eG];refine bZ.cons (fV.val rfl rfl (by decide) (fun g w' hT ho hd=>?_)) ?_
      ·have e1:=ho 9 rfl;go_simp
      refine bZ.cons (fV.val rfl rfl (by decide) (fun g w' hT ho hd=>?_)) ?_
      ·have e1:g 53=.pointer (some ⟨bx,2,none⟩):=hd ⟨0,.data⟩ (by simp) rfl (by decide)
       have y1:=(hx'.out.kW.grown hT Ce.out).cells.2.2.1;rw [jfx.out] at y1
       go_simp
      refine bZ.cons (fV.val rfl rfl (by decide) (fun g w' hT ho hd=>?_)) ?_
      ·have e1:=ho 4 rfl;go_simp
      refine bZ.cons (fV.val rfl rfl (by decide) (fun g w' hT ho hd=>?_)) ?_
      ·have e1:g 55=.pointer (some ⟨w.heap.size+1,2,none⟩):=hd ⟨2,.data⟩ (by simp) rfl (by decide)
       obtain ⟨⟨y0,y1⟩,x0,x1,x2,x3,x4,x5,x6,aV,aW⟩:=hK.out w' (hTB.out w' hT);go_simp
      refine bZ.cons (fV.val rfl rfl (by decide) (fun g w' hT ho hd=>?_)) ?_
      ·have e1:=ho 10 rfl;go_simp
      refine bZ.cons (fV.val rfl rfl (by decide) (fun g w' hT ho hd=>?_)) ?_
      ·have e1:g 56=.slice A2 s.holds.length c2:=hd ⟨3,.data⟩ (by simp) rfl (by decide)
       have e2:g 57=.int .i64 k:=hd ⟨4,.data⟩ (by simp) rfl (by decide)
       have jkH:=jjq.out;go_simp
      refine bZ.cons (fV.val rfl rfl (by decide) (fun g w' hT ho hd=>?_)) ?_
      ·have e1:g 58=.pointer (some ⟨dD A2,jy A2+k*4,none⟩):=hd ⟨5,.data⟩ (by simp) rfl (by decide)
       obtain ⟨_,_,q0,q1,q2,q3⟩:=hh4.out w' (hTB.out w' hT);go_simp
      refine bZ.cons (fV.one (d:=60) (p:=fun v w'=>∃ b,v=.slice (some ⟨b,0,none⟩) 1 1∧wr.heap.size≤b∧dw w' b 46 [.int .i64 (hold s.holds k).order,.int .i64 (hold s.holds k).line,.int .i64 (hold s.holds k).bin,.int .i64 (hold s.holds k).n]) rfl rfl (by decide) (fun v w1 w2 h hb=>h.elim fun b h=>⟨b,h.1,h.2.1,h.2.2.below hb h.2.2.lt⟩) (fun v w1 w2 h hb=>h.elim fun b h=>⟨b,h.1,h.2.1,h.2.2.grown hb (hnew.out b h.2.1)⟩) (fun g w' hT ho hd=>?_)) ?_
      ·have e1:g 59=.agg #[.int .i64 (hold s.holds k).order,.int .i64 (hold s.holds k).line,.int .i64 (hold s.holds k).bin,.int .i64 (hold s.holds k).n]:=hd ⟨6,.data⟩ (by simp) rfl (by decide)
       unfold dO;go_simp
       exact ⟨⟨hT.size,dw.new _ _ _⟩,(aj _ _).alloc (aA _) _⟩
      refine bZ.cons ⟨fun g w1 w2 h hb=>h.below hb,fun hne=>absurd rfl hne,fun g g' w1 he h=>?_,fun g w' hT hJ ho hd=>?_⟩ ?_
      ·have e61:=he 8 _ 61 (.self 8) rfl rfl;simp only [e61] at h
       exact h
      ·have e1:g 54=.slice Ah (jg s i k).length ch:=hd ⟨1,.data⟩ (by simp) rfl (by decide)
       obtain ⟨gb,e3,hgb,hblk⟩:∃ b,g 60=.slice (some ⟨b,0,none⟩) 1 1∧wr.heap.size≤b∧dw w' b 46 [.int .i64 (hold s.holds k).order,.int .i64 (hold s.holds k).line,.int .i64 (hold s.holds k).bin,.int .i64 (hold s.holds k).n]:=hd ⟨7,.data⟩ (by simp) rfl (by decide)
       have hown:Own bM 4 46 w' base V.holds (jg s i k):=hx'.out.own.holds.below (hJ rfl);have hol1:=hol.out;obtain ⟨ii,hi,hz,hsize,hbytes⟩:=ou;obtain ⟨v',w3,hr,hown3,hg3,_,_⟩:=run_append_own_at (P:=prog) w' base 28 28 46 ii _ 4 32 underlying28 hi hz hsize hbytes rfl (by decide) V.holds _ _ hown ⟨gb,0,none⟩ 1 1 (bM (hold s.holds k)) rfl
        (fun j u hj=>by rw [jq,iV];exact hblk.cell hj) (pG _) (by unfold maxLen;omega) (by omega) (bJ hbs hT.size)
       rw [jfx.out] at hr
       unfold dO;simp only [execOp,resolve,invoke,builtin,dQ,e1,e3,lW,nC,nX,rO,dP,nH,hr];refine ⟨?_,.inr ⟨bP,hg3⟩⟩
       have h2:Own bM 4 46 w3 base v' (jg s i k++[hold s.holds k]):=by
        unfold Own;rw [dK,lD];simpa using hown3
       simpa [kH,upd] using h2
      refine bZ.cons (fV.val rfl rfl (by decide) (fun g w' hT ho hd=>?_)) ?_
      ·have e1:=ho 9 rfl;go_simp
      exact bZ.nil
     ·obtain ⟨r0,r1,r2,r3,r4,r5,r6,⟨gb,r7,_,_⟩,hv,r9,_⟩:=hR;simp only [fU,qZ,eY,eG,lF,mG,mF,mD,jH,mg,iW,iy,iJ,r0,r1,r2,r3,r4,r5,r6,r7,r9];clear r0 r1 r2 r3 r4 r5 r6 r7 r9;rw [← hyes.out] at hv
      obtain ⟨Av,cv,hv7⟩:=hv.isSlice;rw [hv7] at hv
      simp only [hv7];have Xp:=hx'.out.own.Qc hT hv;have hb7:=hx'.out.kW.grown hT Ce.out;have h07:=hTB.out w2 hT;clear hv7 hv;refine zU rfl (.tmp 62) (.tmp 61) rfl rfl Av (jg s i (k+1)).length cv (V:=V) (cs:=[]) (b:=bx) (by rw [mJ];exact hb7.blk) Xp SN rfl rfl rfl (fun w8 EF qJ=>?_)
      refine gy ?_
      have ug:=h07.trans (qJ.below (B:=W0.heap.size) (fun q hq=>by omega) h07.size)
      have lN:=Lib.hid (show Bx w8 base bx 31 [] {V with holds:=.slice Av (jg s i (k+1)).length cv} (X7 s (jg s i (k+1))) from EF)
      have hV8:=Lib.hid (show ({V with holds:=.slice Av (jg s i (k+1)).length cv}:SV)={V5 with holds:=.slice Av (jg s i (k+1)).length cv} by rw [DW.out])
      clear EF qJ Xp hb7 h07 hT hx' hrow hTB Ce hnew hh4 jjq hyes hol;go_wp2_with fail;go_roundw
      case rel=>exact ⟨k+1,_,hV8.out,by omega,by go_num,lN.out,ug⟩
      case measure=>simp [intOf];omega
   ·obtain rfl:k=s.holds.length:=by omega
    have hx7:=Lib.hid (show Bx wr base bx 31 [] V (X7 s (s.holds.filter fun h=>decide (h.order≠(i:Int)))) by rw [← VW];exact hx'.out)
    obtain ⟨l7,hl7⟩:∃ l7,(s.holds.filter fun h=>decide (h.order≠(i:Int)))=l7:=⟨_,rfl⟩
    have hfl:=Lib.hid hl7;rw [hl7] at hx7
    have Y6:=Lib.hid (show V.orders=.slice Ao s.orders.length co by rw [DW.out];exact yt.out)
    clear hx' hl7 yt DW;obtain ⟨go,_,_,eo,-⟩:=hx7.out.own.ay (o:=i) hi;rw [Y6.out] at eo
    injection eo with eo e2 e3
    subst eo;clear e2 e3;obtain ⟨hgo,jdH,z0,z1⟩:=hx7.out.own.iC (o:=i) hi Y6.out;have c1:=hx7.out.cells.2.1;rw [Y6.out] at c1
    go_wp2_with (refine xQ rfl (.tmp 67) (.const (.int .i64 2)) rfl rfl (i:=i) (q:=2) hx7.out hi Y6.out rfl rfl (fun w9 qj mQ=>?_);refine aU ?_)
    unfold Hid;clear y0 y1 x0 x1 x2 x3 x4 x5 x6 aV aW;have qj:Bx w9 base bx 31 [] V (xC s l7 i 0):=by rw [← SH];exact qj
    have h09:=h0.trans (mQ.below (B:=W0.heap.size) (fun q hq=>by omega) h0.size)
    have sQ:=Lib.hid qj;clear mQ qj z0 z1 c1 hx7 h0;have l13:=hsn.out.jX hi;obtain ⟨gl,cl,e1,hgl⟩:=sQ.out.own.tC (o:=i) (by rw [ER];exact hi) (by rw [wE hi];omega)
    rw [wE hi] at e1
    have e1':=Lib.hid e1;clear e1;go_wp2_with fail;go_loopw [11] (fun j wr=>∃ k:Nat,k≤(s.order i).lines.length∧j=.int .i64 k∧Bx wr base bx 31 [] V (xC s l7 i k)∧Below W0.heap.size W0 wr) (fun j _=>(s.order i).lines.length - (intOf j).toNat)
    case atStart=>exact ⟨0,aT _,rfl,sQ.out,h09⟩
    case round=>
     clear sQ h09;obtain ⟨k,hkl,rfl,hx,h0⟩:=hrel;have hx':=Lib.hid hx;clear hx;have hon:i<(xC s l7 i k).orders.length:=by rw [ER];exact hi
     obtain ⟨_,_,_,z1⟩:=hx'.out.own.iC hon Y6.out;rw [e1'.out] at z1
     have c1:=hx'.out.cells.2.1;rw [Y6.out] at c1
     have Za:=Lib.hid hon;clear hon;by_cases hkt:k<(s.order i).lines.length
     ·have hki:(k:Int)<((s.order i).lines.length:Int):=by omega
      have hkn:k<((xC s l7 i k).order i).lines.length:=by rw [wE hi];exact hkt
      obtain ⟨TS,f0,f1,f2,f3⟩:=hx'.out.own.jV Za.out hkn e1'.out;rw [FW hi hkt] at f1 f2
      have hlr:=hsn.out.line hi hkt;have hwr:IntKind.i64.wrap ((s.line i k).want - (s.line i k).got)=(s.line i k).want - (s.line i k).got:=by rw [qU];omega
      have QZ:=Lib.hid hx'.out.drew;have hkn':=Lib.hid hkn;clear f0 f3 hlr hkn;go_wp2_with fail;go_still_tail 30,(by kernel_rfl)
      change wpList _ _ _ _ _ wr.drew;refine qF rfl (.tmp 108) (.tmp 106) rfl rfl (j:=3) (y:={s.line i k with back:=(s.line i k).want - (s.line i k).got}) QZ.out Za.out hkn'.out e1'.out (by decide) (by rw [FW hi hkt];rfl) rfl rfl (fun w9 qj mQ=>?_)
      refine gy ?_
      rw [SI hi hkt] at qj
      have h09:=h0.drew.trans (mQ.below (B:=W0.heap.size) (fun q hq=>by omega) h0.drew.size)
      have sQ:=Lib.hid qj;clear mQ qj z1 f1 f2 c1 hx' QZ hwr;go_wp2_with fail;go_roundw
      case rel=>exact ⟨k+1,by omega,by go_num,sQ.out,h09⟩
      case measure=>simp [intOf];omega
     ·obtain rfl:k=(s.order i).lines.length:=by omega
      have hB0:=hb0.trans (h0.mono hb0.size);have hx2:=Lib.hid (show Bx wr base bx 31 [] V (nO s i) by rw [← Vh,hfl.out];exact hx'.out)
      have hvv:=Y6.out;clear hx' Y6 e1';obtain ⟨a0,a1,a2,a3,a4,a5,a6,a7,a8⟩:=V;obtain rfl:a1=.slice (some ⟨go,0,none⟩) s.orders.length co:=hvv;have aX:=hR.out _ h0;obtain ⟨b0,b1,b2,b3,b4,b5,b6⟩:=dN.cells hx2.out.kW;have eU:=aO.one hx2.out.own;go_wp2_with (refine aK (.tmp 6) (.tmp 109) aP (⟨a0,.slice (some ⟨go,0,none⟩) s.orders.length co,a2,a3,a4,a5,a6,a7,a8⟩:SV) rfl aX rfl eU (fun w9 aN dh=>?_))
      have ng:=aO.keptBy hx2.out.own dh aX (by decide) (by decide) (by decide) (by decide) (by decide) (by decide)
      have aQ:=Below.bG hB0 dh;clear b0 b1 b2 b3 b4 b5 b6;go_wp2_with fail;exact dn results54 aN rfl rfl (wH hfin.out (ng.from_ hle) aQ)
 ·have hne:(checkState p s!=0)=true:=by simpa using hc
  have hfin:=Lib.hid (SG (o:=o) hc);clear hc;have aX:=hR.out _ h1;go_wp2_with (refine aK (.tmp 6) (.tmp 17) aP aP rfl aX rfl rfl (fun w9 aN dh=>?_))
  have aQ:=Below.bG hB1 dh;go_wp2_with fail;exact dn results54 aN rfl rfl (dF hfin.out aQ)
end Wh
