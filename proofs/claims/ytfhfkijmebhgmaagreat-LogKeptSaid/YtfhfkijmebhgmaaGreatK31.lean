/- A part. -/
import Derived.Test.YtfhfkijmebhgmaaGreatK30
set_option maxHeartbeats 20000000
set_option maxRecDepth 100000
namespace Wh
open Go Go.RowKit Go.Shelf Go.Proofs Tryz
attribute [local go_sem] aT jW jm kC
theorem jcR.take{w:World}{B:Nat}{A:Option Addr}{l:List yK}(h:jcR w B A l)(m:Nat):jcR w B A (l.take m):=λk hk=>by
 rw[bT]at hk
 have e:(l.take m)[k]'(by rw[bT];exact hk)=l[k]'(by omega):=wu
 rw[e];exact h k (by omega)
theorem jnz(w:World)(v:Value)(p:dA)(l:List yK)(n:Nat)(A:Option Addr)(c:Nat)(hn:l.length=n)(hp:mW w w.heap.size v p)(hz:gQ p=0)(hA:jcR w w.heap.size A l)(hl:n<=60):
  Calls prog 35 #[v,.slice A n c] w λe w'=>∃V:SV,e=.returned V.val/\Lu w.heap.size V p (wL p l (begin p)) w'/\Below w.heap.size w w':=by
 subst hn;exact jko w v p l A c hp hz hA hl
theorem jl0(w:World)(c:Int)(n:Nat)(hn2:n<=100000000)(hc: -9223372036854775808<=c/\c<=9223372036854775807):
  Calls prog 36 #[.int .i64 c,.int .i64 ((n:Int)+1)] w λe w'=>e=.returned (.int .i64 (chosen c (n+1)))/\w=w':=by
 have:=joG w c (n+1) (by omega) (by omega) hc
 rwa [show((n+1:Nat):Int)=(n:Int)+1 by omega]at this
def jaM(l:List yK)(k:Nat):List Int:=(List.range k).map λi=>((textOf (l.take (i+1))).length:Int)
theorem jbf(l:List yK)(k:Nat):(jaM l k).length=k:=by simp[jaM]
theorem jfg(l:List yK)(k:Nat):jaM l (k+1)=jaM l k++[((textOf (l.take (k+1))).length:Int)]:=by
 unfold jaM;rw[lJ,fJ];rfl
theorem jkV{l:List yK}(h:∀x∈l,ok x):∀n∈textOf l,n<256:=λn hn=>by
 obtain⟨x,hx,hn⟩:=oL.1 hn;have h1:=h x hx;rw[<- jfB h1.1 h1.2]at hn
 exact jgP x _ n hn
theorem jmw(t:List Nat)(k:Nat):(pz t).extract 0 k=pz (t.take k):=by
 unfold pz;rw[BR];simp[List.map_take]
theorem logKeptWalk(w:World)(v vl:Value)(p:dA)(l:List yK)(cut:Int)(hp:mW w w.heap.size v p)(hl:jj0 w vl l)(hcut: -9223372036854775808<=cut/\cut<=9223372036854775807):
  Calls prog 11 #[v,vl,.int .i64 cut] w λe w'=>e=.returned (.bool true)/\Below w.heap.size w w':=by
 obtain⟨Al,cl,rfl,kD,hcl,hA,hcap⟩:=hl;obtain⟨z,hz⟩:∃z,gQ p=z:=⟨_,rfl⟩;have hz':=ah hz;have hA':=ah hA;have hcap':=ah hcap;have hcut':=ah hcut;clear hz hA hcap hcut;by_cases h24:l.length<=24
 ·have jvu:¬(24:Int)<(l.length:Int):=by omega
  obtain⟨Ab,cb,As,cs,rfl,hP',hBn,hSz,hlb,hls⟩:=sN hp;go_enter func11,ntmps11
  go_wp2_with fail;obtain⟨W0,hW0,hb0,lg,hK⟩:=jfv w p Ab cb As cs;rw[hW0];clear hW0;obtain⟨y0,y1,ty⟩:=hK.O _ (aj _ _);go_wp2_with fail;clear y0 y1 ty;refine(Vy _ _ p (hP'.O _ hb0)).mono ?_
  rintro e W1 ⟨rfl,h1⟩;rw[hz'.O];have hB1:=hb0.trans (h1.mono hb0.size);by_cases hz0:z=0
  ·subst hz0;go_wp2_with fail;go_loopw[7,8,9,10,11] (λsv ev i _ _ wr=>∃k:Nat,k<=l.length/\i=.int .i64 k/\sv=.string (pz (textOf (l.take k)))/\Own jJ 1 3 wr W0.heap.size ev (jaM l k)/\(∀x∈l.take k,ok x)/\Below W0.heap.size W0 wr) (λ_ _ i _ _ _=>l.length - (RowKit.intOf i).toNat)
   case atStart=>exact⟨0,aK _,rfl,by rw[bV];rfl,Own.nil,by simp,h1⟩
   case round=>
    obtain⟨k,hk,rfl,rfl,ho,hok,h0r⟩:=hrel;have hBr:=hb0.trans (h0r.mono hb0.size);have hok':=ah hok;obtain⟨Ae,ce,rfl⟩:=ho.isSlice;have hel:=jbf l k;rw[hel]at ho ⊢
    have ho':=ah ho;clear ho hok;have htl:(textOf (l.take k)).length<=18*k:=by
     have:=jbZ _ hok'.O;rw[bT]at this
     omega
    by_cases hlt:k<l.length
    ·have hki:(k:Int)<(l.length:Int):=by omega
     obtain⟨A2,c2,ok1,lA,f0,f1,f2,f3,f4,f5,hsl⟩:=(hA'.O.up hBr hBr.size) k hlt;have hsn:=jc4 hlt;have hc2:=hcap'.O _ (bU hlt);obtain⟨x,hx⟩:∃x,l[k]=x:=⟨_,rfl⟩;rw[hx]at f0 f1 f2 f3 f4 f5 hsl hsn hc2
     obtain⟨b,f,hwr⟩:∃b f,IU x=(b,f):=⟨_,_,rfl⟩;have jo8:=ah hwr;have jsW:=ah hsn;have hx':=ah hx;have jkL:=ah hsl;clear hwr hsn hx hsl;go_wp2_with fail;clear f0 f1 f2 f3 f4 f5;refine(ZP _ _ x ⟨_,rfl,jkL.O⟩ hc2).mono ?_
     rintro e W2 ⟨rfl,h2⟩;rw[jo8.O];simp only;have h02:=h0r.trans (h2.mono h0r.size);have hB2:=hb0.trans (h02.mono hb0.size);have ho2:=ah (ho'.O.below h2);by_cases hf:f=0
     ·subst hf;have hwz:=jc3 (x:=x) (by rw[jo8.O])
      have hbx:b=OM x:=by have:=hwz.2.2;rw[jo8.O]at this;exact this
      have hadd:pz (textOf (l.take k))++pz b=pz (textOf (l.take (k+1))):=by rw[Ul,hbx,jsW.O]
      have hsz:=Gy (textOf (l.take (k+1)));have jtm:(textOf (l.take (k+1))).length=(textOf (l.take k)).length+b.length:=by rw[jsW.O,aZ,hbx]
      have ju6:b.length<=18:=by rw[hbx,jaK];have:=hwz.2.1;omega
      have hok2:=ah (show ∀y∈l.take (k+1),ok y from λy hy=>by
       rw[dO hlt,jT]at hy
       rcases hy with hy|hy
       ·exact hok'.O y hy
       ·rw[iP,hx'.O]at hy
        rw[hy];exact⟨hwz.1,hwz.2.1⟩)
      have hln:(jaM l k).length<=1000000:=by rw[hel];omega
      have htx:(textOf (l.take (k+1))).length<=1000:=by omega
      obtain⟨T,hT⟩:∃T,textOf (l.take (k+1))=T:=⟨_,rfl⟩;rw[hT]at hadd hsz htx
      have hT':=ah hT;have hst:=Gy (textOf (l.take k));have hsb:=Gy b;clear hT hwz hbx jtm;go_wp2_with (at_builtin;refine aW ?_)
      unfold Hid;refine lS _ rfl (.tmp 46) (.tmp 49) 23 3 rfl W0.heap.size _ 1 8 underlying23 L9 rfl (by decide) (by decide) (.slice Ae k ce) (jaM l k) (T.length:Int) rfl (ho2.O.alloc _) ⟨W2.heap.size,0,none⟩ 1 rfl rfl (cell_one_new _ _ _) (UU _) hln (by simp;have:=h02.size;omega) ?_
      intro v3 w3 ho3 hg3 hv3 hb3;have Uw:=ah (show Own jJ 1 3 w3 W0.heap.size v3 (jaM l (k+1))by rw[jfg,hT'.O];exact ho3)
      have hB3:Below W0.heap.size W0 w3:=(h02.alloc h02.size _).trans hb3;clear ho3 hg3 hv3 hb3 hst hsb ju6 hadd hsz htx;go_wp2_with fail;go_roundw
      case rel=>exact⟨k+1,by omega,by go_num,by rw[hT'.O],Uw.O,hok2.O,hB3⟩
      case measure=>simp[RowKit.intOf];omega
     ·have hne:(f !=0)=true:=by simpa using hf
      go_wp2_with fail;refine(Rk _).mono ?_
      rintro e W9 ⟨rfl,h9⟩;go_wp2_with fail;go_ret
      exact⟨rfl,(hB2).trans (h9.mono (jc (hB2)))⟩
    ·obtain rfl:k=l.length:=by omega
     rw[fG]at hok' htl ⊢
     have jpd:=hok'.O;obtain⟨T,hT⟩:∃T,textOf l=T:=⟨_,rfl⟩;rw[hT]at htl ⊢
     have hsz:=Gy T;have hTb:=ah (show ∀n∈T,n<256 by rw[<- hT];exact jkV jpd)
     have hrc:=ah (show ∀K,sS p (T.take K)=(wL p (l.take (whole l K)) (begin p),(whole l K:Int),0)from λK=>by rw[<- hT];exact jc7 hz'.O jpd h24)
     clear hT hok' jpd;go_wp2_with fail;refine(jl0 wr cut T.length (by omega) hcut'.O).mono ?_
     rintro e w' ⟨rfl,rfl⟩;have hKT:=jlN cut (n:=T.length+1) (by omega)
     generalize chosen cut (T.length+1)=K at hKT ⊢
     have hwl:=jcU l K;have hwi:=ah (λm (hm:m<l.length)=>jcX l K m hm)
     obtain⟨M,hM⟩:∃M,whole l K=M:=⟨_,rfl⟩;have hrec:=ah (hrc.O K);rw[hM]at hwl hwi hrec
     have jnR:=ah (show aQ p (wL p (l.take M) (begin p))=0 from MK (Uo hz'.O))
     obtain⟨D,hD⟩:∃D,wL p (l.take M) (begin p)=D:=⟨_,rfl⟩;rw[hD]at hrec jnR
     have hD':=ah hD;have hTk:=ah (show ∀n∈T.take K,n<256 from λn hn=>hTb.O n (tq hn))
     have hsl:=ah (ho'.O.sl (by rw[jbf];exact kD)).at_
     clear hM hrc hD hTb ho';go_wp2_with fail;go_loop[13] (λm'=>∃m:Nat,m<=M/\m'=.int .i64 m) (λm'=>M - (RowKit.intOf m').toNat)
     case atStart=>exact⟨0,aK _,rfl⟩
     case round=>
      obtain⟨m,hm,rfl⟩:=hrel;by_cases hmw:m<M
      ·have hml:m<l.length:=by omega
       have hmi:(m:Int)<(l.length:Int):=by omega
       obtain⟨oe,le,re⟩:=hsl.O.int (i:=m) (by rw[jbf];exact hml)
       have hle:=(hwi.O m hml).2 hmw;rw[show bI (jaM l l.length) m=((textOf (l.take (m+1))).length:Int)by simp[bI,jaM,hml]]at re
       generalize (textOf (l.take (m+1))).length=E at re hle
       have js6:(E:Int)<=(K:Int):=by omega
       go_wp2_with fail;go_round
       case rel=>exact⟨m+1,by omega,by go_num⟩
       case measure=>simp[RowKit.intOf];omega
      ·obtain rfl:m=M:=by omega
       have hcase:(m<l.length/\¬(textOf (l.take (m+1))).length<=K)\/m=l.length:=by
        by_cases h:m<l.length
        ·exact .inl ⟨h,λhn=>hmw ((hwi.O m h).1 hn)⟩
        ·exact .inr (by omega)
       rcases hcase with⟨hml,jsZ⟩|hml
       all_goals
        first
        |(have hmi:(m:Int)<(l.length:Int):=by omega
          obtain⟨oe,le,re⟩:=hsl.O.int (i:=m) (by rw[jbf];exact hml)
          rw[show bI (jaM l l.length) m=((textOf (l.take (m+1))).length:Int)by simp[bI,jaM,hml]]at re
          generalize (textOf (l.take (m+1))).length=E at re jsZ
          have js6:¬(E:Int)<=(K:Int):=by omega
          go_wp2_with fail;clear oe le re js6 hmi hml jsZ)
        |(have hmi:¬(m:Int)<(l.length:Int):=by omega
          clear hml;go_wp2_with fail;clear hmi)
        refine U5 13 (λwq=>Below wr.heap.size wr wq) (jaG wr.heap.size) 9 10 (by decide) (by decide) (by decide) (λo ho=>by injection ho with ho;subst ho;exact⟨⟨9,.data⟩,by simp,rfl,rfl⟩)
         [λ_ gq _=>gq 71=.agg #[.slice Ab p.bQ.length cb,.slice As p.aP.length cs],λ_ gq _=>gq 72=.string (pz T),λ_ gq _=>gq 73=.int .i64 K,λ_ gq _=>gq 74=.string (pz (T.take K)),λph gq w'=>Q9 (λV=>.tuple #[V.val,.int .i64 m,.int .i64 0]) wr.heap.size D ph (gq 75) w',λph gq w'=>Q9 (λV=>.tuple #[V.val,.int .i64 m,.int .i64 0]) wr.heap.size D ph (gq 70) w',λph gq w'=>Q9 SV.val wr.heap.size D ph (gq 76) w',λ_ gq _=>gq 77=.int .i64 m,λ_ gq _=>gq 78=.int .i64 0,λph gq w'=>jeF wr.heap.size ph (gq 14) w',λph gq w'=>ph=2/\QX 14 wr.heap.size D gq w',λ_ gq _=>gq 15=.int .i64 m,λ_ gq _=>gq 16=.int .i64 0] (by kernel_rfl) (by kernel_rfl) rfl (by kernel_rfl)
         (λw1 w2 h h'=>h.trans (h'.mono h.size)) (λk w1 w2 h h'=>h.trans h'.1) (aj _ _).drew ?_ (λf w5 h45 hR=>?_)
        ·simp only[bC,bV];refine BZ.cons (H9.val rfl rfl (by decide) (by decide) (λph gq w' hb ho hd=>?_)) ?_
         ·have e3:=ho 3 rfl;obtain⟨y0,y1,ty⟩:=hK.O _ (h0r.trans (hb.mono h0r.size));go_simp
         refine BZ.cons (H9.val rfl rfl (by decide) (by decide) (λph gq w' hb ho hd=>?_)) ?_
         ·have e7:=ho 7 rfl;go_simp
         refine BZ.cons (H9.val rfl rfl (by decide) (by decide) (λph gq w' hb ho hd=>?_)) ?_
         ·have e12:=ho 12 rfl;go_simp
         refine BZ.cons (H9.val rfl rfl (by decide) (by decide) (λph gq w' hb ho hd=>?_)) ?_
         ·have e72:gq 72=.string (pz T):=hd ⟨1,.data⟩ (by simp) rfl (by decide)
          have e73:gq 73=.int .i64 K:=hd ⟨2,.data⟩ (by simp) rfl (by decide)
          have hex:=jmw T K;have hki:(K:Int)<=(T.length:Int):=by omega
          go_simp
         refine BZ.cons (H9.one (d:=75) (p:=Q9 (λV=>.tuple #[V.val,.int .i64 m,.int .i64 0]) wr.heap.size D) rfl rfl (by decide) (by decide) (λ_ _ _ _ h hb=>Qn h hb) (λ_ _ _ _ _ h hb=>SC h hb) (λph gq w' hb ho hd=>?_)) ?_
         ·have e71:gq 71=.agg #[.slice Ab p.bQ.length cb,.slice As p.aP.length cs]:=hd ⟨0,.data⟩ (by simp) rfl (by decide)
          have e74:gq 74=.string (pz (T.take K)):=hd ⟨3,.data⟩ (by simp) rfl (by decide)
          unfold iT;go_simp
          refine(YN w' _ p (T.take K) (hP'.O _ (hBr.trans (hb.mono hBr.size))) hTk.O).mono ?_
          rintro e w2 ⟨V2,rfl,ho2,hb2⟩;rw[hrec.O]at ho2 ⊢
          exact⟨_,rfl,⟨V2,rfl,ho2.from_ hb.size⟩,hb2⟩
         refine BZ.cons (H9.one (d:=70) (p:=Q9 (λV=>.tuple #[V.val,.int .i64 m,.int .i64 0]) wr.heap.size D) rfl rfl (by decide) (by decide) (λ_ _ _ _ h hb=>Qn h hb) (λ_ _ _ _ _ h hb=>SC h hb) (λph gq w' hb ho hd=>?_)) ?_
         ·have eq:Q9 (λV=>.tuple #[V.val,.int .i64 m,.int .i64 0]) wr.heap.size D ph (gq 75) w':=hd ⟨4,.data⟩ (by simp) rfl (by decide)
          obtain⟨V3,eq,ho3⟩:=eq;have jnr:=ah ho3;clear ho3;unfold iT;go_simp
          exact⟨⟨V3,rfl,jnr.O⟩,aj _ _⟩
         refine BZ.cons (H9.one (d:=76) (p:=Q9 SV.val wr.heap.size D) rfl rfl (by decide) (by decide) (λ_ _ _ _ h hb=>Qn h hb) (λ_ _ _ _ _ h hb=>SC h hb) (λph gq w' hb ho hd=>?_)) ?_
         ·have eq:Q9 (λV=>.tuple #[V.val,.int .i64 m,.int .i64 0]) wr.heap.size D ph (gq 70) w':=hd ⟨5,.data⟩ (by simp) rfl (by decide)
          obtain⟨V3,eq,ho3⟩:=eq;have jnr:=ah ho3;clear ho3;unfold iT;go_simp
          exact⟨⟨V3,rfl,jnr.O⟩,aj _ _⟩
         refine BZ.cons (H9.val rfl rfl (by decide) (by decide) (λph gq w' hb ho hd=>?_)) ?_
         ·have eq:Q9 (λV=>.tuple #[V.val,.int .i64 m,.int .i64 0]) wr.heap.size D ph (gq 70) w':=hd ⟨5,.data⟩ (by simp) rfl (by decide)
          obtain⟨V3,eq,ho3⟩:=eq;clear ho3;go_simp
         refine BZ.cons (H9.val rfl rfl (by decide) (by decide) (λph gq w' hb ho hd=>?_)) ?_
         ·have eq:Q9 (λV=>.tuple #[V.val,.int .i64 m,.int .i64 0]) wr.heap.size D ph (gq 70) w':=hd ⟨5,.data⟩ (by simp) rfl (by decide)
          obtain⟨V3,eq,ho3⟩:=eq;clear ho3;go_simp
         refine BZ.cons (H9.first (d:=14) (p:=jeF wr.heap.size) rfl rfl (λ_ _ _ _ h hb=>jeE h hb) (λ_ _ _ h _=>jjN h) (λgq w' hb ho hd=>?_)) ?_
         ·unfold iT;go_simp
          have hal:Below w'.heap.size w' (w'.alloc (.cells #[.slice none 0 0,.slice none 0 0,.slice none 0 0,.slice none 0 0,.slice none 0 0,.slice none 0 0,.slice none 0 0] 31)):=(aj _ _).alloc (au _) _;exact⟨⟨_,rfl,hb.size,λ_=>vG _⟩,ZU hal hb.size⟩
         refine BZ.cons (H9.second (p:=QX 14 wr.heap.size D) (by decide) rfl (λ_ _ _ h hb=>XG h hb) (λgq gq' w1 he h=>by
           have e1:=he 9 _ 14 (JD.dP (e:=⟨9,.data⟩) rfl (by simp) rfl rfl (JD.self _)) rfl rfl
           unfold QX;rw[<- e1];exact h) (λgq w' hb ho hd=>?_)) ?_
         ·have eb:jeF wr.heap.size 1 (gq 14) w':=hd ⟨9,.data⟩ (by simp) rfl (by decide)
          have ev:Q9 SV.val wr.heap.size D 1 (gq 76) w':=hd ⟨6,.data⟩ (by simp) rfl (by decide)
          obtain⟨b,eb,hbl,hbo⟩:=eb;obtain⟨V3,ev,ho3⟩:=ev;have hbo:=hbo (au _);refine Rh (.tmp 14) (.tmp 76) rfl b dH V3 hbo eb ev ho3.one (λw8 KW hg8=>?_)
          exact⟨⟨b,V3,eb,hbl,KW,ho3.keptBy hg8 hbo.blk (by decide) (by decide) (by decide) (by decide) (by decide) (by decide)⟩,jdK hbo hbl hg8⟩
         refine BZ.cons (H9.val rfl rfl (by decide) (by decide) (λph gq w' hb ho hd=>?_)) ?_
         ·have e77:gq 77=.int .i64 m:=hd ⟨7,.data⟩ (by simp) rfl (by decide)
          go_simp
         refine BZ.cons (H9.val rfl rfl (by decide) (by decide) (λph gq w' hb ho hd=>?_)) ?_
         ·have e78:gq 78=.int .i64 0:=hd ⟨8,.data⟩ (by simp) rfl (by decide)
          go_simp
         exact BZ.nil
        obtain⟨r71,r72,r73,r74,⟨Va,r75,_⟩,⟨Vb,r70,_⟩,⟨Vc,r76,_⟩,r77,r78,_,⟨_,bb,V2,kK,hlb,Jl,jsY⟩,r15,r16,_⟩:=hR;simp only[kG,zB,bC,bV,eG,gW,eX,fF,fB,gV,bM,dF,dL,r71,r72,r73,r74,r75,r70,r76,r77,r78,kK,r15,r16];clear r71 r72 r73 r74 r75 r70 r76 r77 r78 kK r15 r16;refine fC ?_
        have h05:=h0r.trans (h45.mono h0r.size);have P6:=hb0.trans (h05.mono hb0.size);have hv5:=ah (jsY.view0 (OB jnR.O));have QC:=ah Jl;have lb5:=Jl.lt;clear h45 Jl jsY;go_wp2_with fail;refine jcT 26 [λgq w'=>(λv w'=>v=.bool true) (gq 79) w',λgq _=>gq 80=.bool true,λgq _=>gq 81=.int .i64 0,λgq _=>gq 82=.bool true,λgq _=>gq 83=.bool true,λgq _=>gq 84=.bool true,λgq _=>gq 85=.int .i64 m,λgq _=>gq 86=.int .i64 m,λgq _=>gq 87=.bool true,λgq _=>gq 88=.bool true,λgq _=>gq 89=.bool true,λgq _=>gq 90=.agg #[.slice Ab p.bQ.length cb,.slice As p.aP.length cs],λgq _=>gq 91=.agg #[V2.on,V2.ak,V2.aA,V2.aF,V2.gY,V2.O,V2.bg],λgq w'=>(λv w'=>v=.int .i64 0) (gq 92) w',λgq _=>gq 93=.bool true,λgq _=>gq 94=.bool true,λgq _=>gq 95=.bool true,λgq _=>gq 96=.agg #[V2.on,V2.ak,V2.aA,V2.aF,V2.gY,V2.O,V2.bg],λgq _=>gq 97=.agg #[.slice Ab p.bQ.length cb,.slice As p.aP.length cs],λgq _=>gq 98=.slice Al l.length cl,λgq _=>gq 99=.int .i64 m,λgq _=>gq 100=.slice Al m cl,λgq w'=>(λv w'=>∃V:SV,v=V.val/\Lu w5.heap.size V p D w') (gq 101) w',λgq w'=>(λv w'=>v=.bool true) (gq 102) w',λgq _=>gq 103=.bool true,λgq _=>gq 6=.bool true] (by kernel_rfl) (by kernel_rfl) rfl (by kernel_rfl) ?_ (λf W6 hb6 hR=>?_)
        simp only[bC,bV];refine jaL.cons (OpG.one (d:=79) (p:=(λv w'=>v=.bool true)) rfl rfl (λv w1 w2 h hb=>h) (λgq w' ho hd=>trivial) (λgq w' hb ho hd=>?_)) ?_
        ·unfold iT;go_simp
         refine(Rk w').mono ?_
         rintro e w2 ⟨rfl,hb2⟩;exact⟨_,rfl,rfl,hb2⟩
        refine jaL.cons (OpG.val rfl rfl (λgq w' ho hd=>trivial) (λgq w' hb ho hd=>?_)) ?_
        ·have e79:(gq 79)=.bool true:=hd ⟨0,.data⟩ (by simp) rfl (by decide)
         go_simp
        refine jaL.cons (OpG.val rfl rfl (λgq w' ho hd=>⟨_,rfl,hd ⟨1,.guard⟩ (by simp) rfl (by decide)⟩) (λgq w' hb ho hd=>?_)) ?_
        ·have e16:=ho 16 rfl;go_simp
        refine jaL.cons (OpG.val rfl rfl (λgq w' ho hd=>⟨_,rfl,hd ⟨1,.guard⟩ (by simp) rfl (by decide)⟩) (λgq w' hb ho hd=>?_)) ?_
        ·have e81:gq 81=.int .i64 0:=hd ⟨2,.data⟩ (by simp) rfl (by decide)
         go_simp
        refine jaL.cons (OpG.val rfl rfl (λgq w' ho hd=>trivial) (λgq w' hb ho hd=>?_)) ?_
        ·have e80:gq 80=.bool true:=hd ⟨1,.data⟩ (by simp) rfl (by decide)
         have e82:gq 82=.bool true:=hd ⟨3,.data⟩ (by simp) rfl (by decide)
         go_simp
        refine jaL.cons (OpG.val rfl rfl (λgq w' ho hd=>trivial) (λgq w' hb ho hd=>?_)) ?_
        ·have e83:gq 83=.bool true:=hd ⟨4,.data⟩ (by simp) rfl (by decide)
         go_simp
        refine jaL.cons (OpG.val rfl rfl (λgq w' ho hd=>⟨_,rfl,hd ⟨5,.guard⟩ (by simp) rfl (by decide)⟩) (λgq w' hb ho hd=>?_)) ?_
        ·have e15:=ho 15 rfl;go_simp
        refine jaL.cons (OpG.val rfl rfl (λgq w' ho hd=>⟨_,rfl,hd ⟨5,.guard⟩ (by simp) rfl (by decide)⟩) (λgq w' hb ho hd=>?_)) ?_
        ·have e13:=ho 13 rfl;go_simp
        refine jaL.cons (OpG.val rfl rfl (λgq w' ho hd=>⟨_,rfl,hd ⟨5,.guard⟩ (by simp) rfl (by decide)⟩) (λgq w' hb ho hd=>?_)) ?_
        ·have e85:gq 85=.int .i64 m:=hd ⟨6,.data⟩ (by simp) rfl (by decide)
         have e86:gq 86=.int .i64 m:=hd ⟨7,.data⟩ (by simp) rfl (by decide)
         go_simp
        refine jaL.cons (OpG.val rfl rfl (λgq w' ho hd=>trivial) (λgq w' hb ho hd=>?_)) ?_
        ·have e84:gq 84=.bool true:=hd ⟨5,.data⟩ (by simp) rfl (by decide)
         have e87:gq 87=.bool true:=hd ⟨8,.data⟩ (by simp) rfl (by decide)
         go_simp
        refine jaL.cons (OpG.val rfl rfl (λgq w' ho hd=>trivial) (λgq w' hb ho hd=>?_)) ?_
        ·have e88:gq 88=.bool true:=hd ⟨9,.data⟩ (by simp) rfl (by decide)
         go_simp
        refine jaL.cons (OpG.val rfl rfl (λgq w' ho hd=>⟨_,rfl,hd ⟨10,.guard⟩ (by simp) rfl (by decide)⟩) (λgq w' hb ho hd=>?_)) ?_
        ·have e3:=ho 3 rfl;obtain⟨y0,y1,ty⟩:=hK.O _ (h05.trans (hb.mono h05.size));go_simp
        refine jaL.cons (OpG.val rfl rfl (λgq w' ho hd=>⟨_,rfl,hd ⟨10,.guard⟩ (by simp) rfl (by decide)⟩) (λgq w' hb ho hd=>?_)) ?_
        ·have e14:=ho 14 rfl;obtain⟨x0,x1,x2,x3,x4,x5,x6⟩:=(QC.O.below hb lb5).cells;go_simp
        refine jaL.cons (OpG.one (d:=92) (p:=(λv w'=>v=.int .i64 0)) rfl rfl (λv w1 w2 h hb=>h) (λgq w' ho hd=>⟨_,rfl,hd ⟨10,.guard⟩ (by simp) rfl (by decide)⟩) (λgq w' hb ho hd=>?_)) ?_
        ·have e90:gq 90=.agg #[.slice Ab p.bQ.length cb,.slice As p.aP.length cs]:=hd ⟨11,.data⟩ (by simp) rfl (by decide)
         have e91:gq 91=.agg #[V2.on,V2.ak,V2.aA,V2.aF,V2.gY,V2.O,V2.bg]:=hd ⟨12,.data⟩ (by simp) rfl (by decide)
         unfold iT;go_simp
         refine(jlV w' _ _ (hP'.O _ (P6.trans (hb.mono P6.size))) (hv5.O.grow hb) jnR.O).mono ?_
         rintro e w2 ⟨rfl,hb2⟩;exact⟨_,rfl,rfl,hb2⟩
        refine jaL.cons (OpG.val rfl rfl (λgq w' ho hd=>⟨_,rfl,hd ⟨10,.guard⟩ (by simp) rfl (by decide)⟩) (λgq w' hb ho hd=>?_)) ?_
        ·have e92:(gq 92)=.int .i64 0:=hd ⟨13,.data⟩ (by simp) rfl (by decide)
         go_simp
        refine jaL.cons (OpG.val rfl rfl (λgq w' ho hd=>trivial) (λgq w' hb ho hd=>?_)) ?_
        ·have e89:gq 89=.bool true:=hd ⟨10,.data⟩ (by simp) rfl (by decide)
         have e93:gq 93=.bool true:=hd ⟨14,.data⟩ (by simp) rfl (by decide)
         go_simp
        refine jaL.cons (OpG.val rfl rfl (λgq w' ho hd=>trivial) (λgq w' hb ho hd=>?_)) ?_
        ·have e94:gq 94=.bool true:=hd ⟨15,.data⟩ (by simp) rfl (by decide)
         go_simp
        refine jaL.cons (OpG.val rfl rfl (λgq w' ho hd=>⟨_,rfl,hd ⟨16,.guard⟩ (by simp) rfl (by decide)⟩) (λgq w' hb ho hd=>?_)) ?_
        ·have e14:=ho 14 rfl;obtain⟨x0,x1,x2,x3,x4,x5,x6⟩:=(QC.O.below hb lb5).cells;go_simp
        refine jaL.cons (OpG.val rfl rfl (λgq w' ho hd=>⟨_,rfl,hd ⟨16,.guard⟩ (by simp) rfl (by decide)⟩) (λgq w' hb ho hd=>?_)) ?_
        ·have e3:=ho 3 rfl;obtain⟨y0,y1,ty⟩:=hK.O _ (h05.trans (hb.mono h05.size));go_simp
        refine jaL.cons (OpG.val rfl rfl (λgq w' ho hd=>⟨_,rfl,hd ⟨16,.guard⟩ (by simp) rfl (by decide)⟩) (λgq w' hb ho hd=>?_)) ?_
        ·have e1:=ho 1 rfl;go_simp
        refine jaL.cons (OpG.val rfl rfl (λgq w' ho hd=>⟨_,rfl,hd ⟨16,.guard⟩ (by simp) rfl (by decide)⟩) (λgq w' hb ho hd=>?_)) ?_
        ·have e13:=ho 13 rfl;go_simp
        refine jaL.cons (OpG.val rfl rfl (λgq w' ho hd=>⟨_,rfl,hd ⟨16,.guard⟩ (by simp) rfl (by decide)⟩) (λgq w' hb ho hd=>?_)) ?_
        ·have e98:gq 98=.slice Al l.length cl:=hd ⟨19,.data⟩ (by simp) rfl (by decide)
         have e99:gq 99=.int .i64 m:=hd ⟨20,.data⟩ (by simp) rfl (by decide)
         have hmc:(m:Int)<=(cl:Int):=by omega
         go_simp
        refine jaL.cons (OpG.one (d:=101) (p:=(λv w'=>∃V:SV,v=V.val/\Lu w5.heap.size V p D w')) rfl rfl (λv w1 w2 h hb=>let ⟨V,h1,h2⟩:=h;⟨V,h1,h2.below hb⟩) (λgq w' ho hd=>⟨_,rfl,hd ⟨16,.guard⟩ (by simp) rfl (by decide)⟩) (λgq w' hb ho hd=>?_)) ?_
        ·have e97:gq 97=.agg #[.slice Ab p.bQ.length cb,.slice As p.aP.length cs]:=hd ⟨18,.data⟩ (by simp) rfl (by decide)
         have e100:gq 100=.slice Al m cl:=hd ⟨21,.data⟩ (by simp) rfl (by decide)
         unfold iT;go_simp
         have jpj:=P6.trans (hb.mono P6.size);refine(jnz w' _ p (l.take m) m Al cl (by rw[bT];omega) (hP'.O _ jpj) hz'.O ((hA'.O.up jpj jpj.size).take m) (by omega)).mono ?_
         rintro e w2 ⟨V3,rfl,hU3,hb2⟩;rw[hD'.O]at hU3
         exact⟨_,rfl,⟨V3,rfl,hU3.from_ hb.size⟩,hb2⟩
        refine jaL.cons (OpG.one (d:=102) (p:=(λv w'=>v=.bool true)) rfl rfl (λv w1 w2 h hb=>h) (λgq w' ho hd=>⟨_,rfl,hd ⟨16,.guard⟩ (by simp) rfl (by decide)⟩) (λgq w' hb ho hd=>?_)) ?_
        ·have e96:gq 96=.agg #[V2.on,V2.ak,V2.aA,V2.aF,V2.gY,V2.O,V2.bg]:=hd ⟨17,.data⟩ (by simp) rfl (by decide)
         have jpq:∃V:SV,(gq 101)=V.val/\Lu w5.heap.size V p D w':=hd ⟨22,.data⟩ (by simp) rfl (by decide)
         obtain⟨V3,jpq,hU3⟩:=jpq;have jvb:=ah hU3;clear hU3;unfold iT;go_simp
         have k1:lK w' w'.heap.size (.agg #[V2.on,V2.ak,V2.aA,V2.aF,V2.gY,V2.O,V2.bg]) D:=hv5.O.grow hb;have k2:lK w' w'.heap.size V3.val D:=jvb.O.made.view;refine(JK w' _ _ D k1 k2).mono ?_
         rintro e w2 ⟨rfl,hb2⟩;exact⟨_,rfl,rfl,hb2⟩
        refine jaL.cons (OpG.val rfl rfl (λgq w' ho hd=>trivial) (λgq w' hb ho hd=>?_)) ?_
        ·have e95:gq 95=.bool true:=hd ⟨16,.data⟩ (by simp) rfl (by decide)
         have jvC:(gq 102)=.bool true:=hd ⟨23,.data⟩ (by simp) rfl (by decide)
         go_simp
        refine jaL.cons (OpG.val rfl rfl (λgq w' ho hd=>trivial) (λgq w' hb ho hd=>?_)) ?_
        ·have jvB:gq 103=.bool true:=hd ⟨24,.data⟩ (by simp) rfl (by decide)
         go_simp
        exact jaL.nil;obtain⟨r79,r80,r81,r82,r83,r84,r85,r86,r87,r88,r89,r90,r91,r92,r93,r94,r95,r96,r97,r98,r99,jqh,jqg,jqf,jqe,r6,_⟩:=hR;replace r79:(f 79)=.bool true:=r79;replace r92:(f 92)=.int .i64 0:=r92;replace jqg:∃V:SV,(f 101)=V.val/\Lu w5.heap.size V p D W6:=jqg;replace jqf:(f 102)=.bool true:=jqf;simp only[kG,zB,bC,bV,eG,gW,eX,fF,fB,gV,bM,dF,dL,r79,r80,r81,r82,r83,r84,r85,r86,r87,r88,r89,r90,r91,r92,r93,r94,r95,r96,r97,r98,r99,jqh,jqf,jqe,r6];clear r79 r80 r81 r82 r83 r84 r85 r86 r87 r88 r89 r90 r91 r92 r93 r94 r95 r96 r97 r98 r99 jqh jqf jqe r6;refine fC ?_
        go_wp2_with fail;go_ret
        exact⟨rfl,P6.trans (hb6.mono P6.size)⟩
  ·have hne:(z !=0)=true:=by simpa using hz0
   go_wp2_with fail;refine(Rk _).mono ?_
   rintro e W9 ⟨rfl,h9⟩;go_wp2_with fail;go_ret
   exact⟨rfl,(hB1).trans (h9.mono (jc (hB1)))⟩
 ·have jvu:(24:Int)<(l.length:Int):=by omega
  obtain⟨Ab,cb,As,cs,rfl,hP',hBn,hSz,hlb,hls⟩:=sN hp;go_enter func11,ntmps11
  go_wp2_with fail;obtain⟨W0,hW0,hb0,lg,hK⟩:=jfv w p Ab cb As cs;rw[hW0];clear hW0;go_wp2_with fail;refine(Rk _).mono ?_
  rintro e W9 ⟨rfl,h9⟩;go_wp2_with fail;go_ret
  exact⟨rfl,hb0.trans (h9.mono hb0.size)⟩
end Wh
