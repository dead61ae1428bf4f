/- Texts of the claim, joined. -/
import Derived.Test.YtniaecolikhmeaaGreatDoorQ18
import Derived.Test.YtniaecolikhmeaaGreatDoorQ22
import Derived.Test.YtniaecolikhmeaaGreatDoorQ23
set_option maxHeartbeats 20000000
set_option maxRecDepth 100000
set_option linter.all false
namespace Wh
open Go Go.RowKit Go.Shelf Go.Proofs Tryz
section
attribute [local go_sem] aV
section
variable {p:dG} {s:aI} {o k b:Nat} {m:Int}
theorem jkS(h:lu p s)(f:Fits p s o k b m):add s.aA ⟨o,k,b,m⟩=((uj s o k b m).aA,0):=by
 have h1:=h.sane.aA;have yg:=J6 h.sane f.ho f.hk f.hb;obtain⟨k1,k2⟩:=MK h f;have hf:lq ⟨o,k,b,m⟩=true:=nH.2 ⟨yg,by have:=f.m1;simp only;omega⟩
 unfold add;rw[h1,hf,au (by simp),au (by simp)]
 simp only;rw[au (by omega)]
 rfl
end
theorem jaO{l:List Nat}{j:Nat}(hj:j<l.length):aZ (yI l) j=(l[j]:Int):=by
 unfold aZ yI;simp[hj]
theorem drop_at{l:List Nat}{j:Nat}(hj:j<l.length):l.drop j=l[j]::l.drop (j+1):=jU hj
theorem dX.tJ{w:World}{aT:Nat}{V:SV}{s:aI}(h:dX w aT V s){o k:Nat}(ho:o<s.ak.length)(hk:k<(s.aC o).aH.length){gl n c:Nat}(hv:V.aK o=.slice (some gl) n c):gl<w.heap.size/\
  w.cell? ⟨gl,k*4,none⟩=some (.int .i64 (s.aK o k).dW)/\w.cell? ⟨gl,k*4+1,none⟩=some (.int .i64 (s.aK o k).jk)/\w.cell? ⟨gl,k*4+2,none⟩=some (.int .i64 (s.aK o k).qI)/\w.cell? ⟨gl,k*4+3,none⟩=some (.int .i64 (s.aK o k).eU):=by
 obtain⟨g',c',cur,e1,_,e3,f⟩:=h.fG ho hk;rw[hv]at e1
 injection e1 with e1
 injection e1 with e1
 injection e1 with e1
 subst e1;exact⟨e3.lt,f⟩
def jkU(p:dG)(s:aI)(o k:Nat)(n but:Int)(w:World)(aT b:Nat)(t:TypeId)(rst:List Value)(V:SV)(e:Ending)(w':World):Prop:=
 e=.returned (.int .i64 (qM p s o k n but).2)/\∃V',V'={V with aA:=V'.aA}/\Bx w' aT b t rst V' (qM p s o k n but).1/\Step (λj=>j=b\/(V.aK o).ownBlock=some j) w w'
theorem jfG(w:World)(v:Value)(p:dG)(s:aI)(o k:Nat)(n but:Int){aT b:Nat}{t:TypeId}{rst:List Value}{V:SV}(hp:kK w w v p)(hr:lu p s)(hm:May s o k n)(hB:Bx w aT b t rst V s)(wu:aT<=w.heap.size):
  Calls prog 99 #[v,.pointer (some b),o,k,n,but] w (jkU p s o k n but w aT b t rst V):=by
 obtain⟨Ab,cb,As,cs,rfl,hP',hBn,hSz,hlb,hls⟩:=o9 hp;go_enter func99,ntmps99
 go_wp2_with fail;obtain⟨W0,hW0,hb0,kX,hK⟩:=jmB w p Ab cb As cs;rw[hW0];clear hW0;have hz:=hr.sane.plan;obtain⟨y0,y1,fC⟩:=hK.O W0 (aj _ _);go_wp2_with fail;refine(jem _ _ p (hP'.O _ hb0)).mono ?_
 rintro e W1 ⟨uw,rfl,Xt,h1⟩;rw[hz]at Xt ⊢
 rw[aB rfl]at Xt
 obtain⟨Aw,cw,rfl⟩:=Xt.isSlice;rw[D5]at Xt ⊢
 have hBlt:=hB.lt;have XK:=fD hb0 h1;have hB1:=ah (hB.below XK);obtain⟨gl,cl,curl,e1,hgl,Dz,f0,f1,f2,f3⟩:=hB1.O.own.fG hm.ho hm.hk;have hll:=((hB.own.aK o hm.ho).size gl (by rw[e1];rfl)).2
 obtain⟨go,co,jkD,eo,hgo,OY,z0,z1⟩:=hB1.O.own.bK hm.ho;obtain⟨c0,c1,c2,c3,c4,c5,c6⟩:=hB1.O.cells;rw[eo]at c1
 rw[e1]at z1
 have hon:(o:Int)<(s.ak.length:Int):=by have:=hm.ho;omega
 have hkn:(k:Int)<((s.aC o).aH.length:Int):=by have:=hm.hk;omega
 have hm':=ah hm;have hr':=ah hr;have jcM:=ah Xt;have hlw:(way p).length<=6:=by rw[V4];exact hr.sane.counts.2.1
 clear hm hr Xt hB hz y0 y1 hP' hBn hSz hK;go_wp2_with fail;clear c0 c1 c2 c3 c4 c5 c6 z0 z1 f0 f1 f2 f3 hon hkn eo OY Dz;have hl0:W0.heap.size<=W1.heap.size:=h1.size;go_loopw[36,4,17,18] (λi n' _ _ wr=>∃(j:Nat) (s':aI) (m:Int) (V':SV),V'={V with aA:=V'.aA}/\j<=(way p).length/\i=.int .i64 j/\n'=.int .i64 m/\lu p s'/\May s' o k m/\uM o k but ((way p).drop j) s' m=qM p s o k n but/\
  Bx wr aT b t rst V' s'/\Step (λj=>j=b\/(V.aK o).ownBlock=some j) W1 wr) (λi _ _ _ _=>(way p).length - (RowKit.intOf i).toNat)
 case atStart=>exact⟨0,s,n,V,rfl,aN _,rfl,rfl,hr'.O,hm'.O,rfl,hB1.O,Step.refl _ _⟩
 case round=>
  clear hr' hm' hB1;obtain⟨j,s',m,V',hsb,hj,rfl,rfl,hr,hm,htg,hBx,hst⟩:=hrel;have hr':=ah hr;have hm':=ah hm;have jja:=ah htg;have jfh:=ah hBx;have hst':=ah hst;have hks:=ah (show ∀j,(j=b\/(V.aK o).ownBlock=some j)->j<W0.heap.size from λj h=>by
   have:=hb0.size;rcases h with rfl|h
   ·omega
   ·rw[e1]at h
    change some gl=some j at h
    injection h with h
    omega)
  by_cases hlt:j<(way p).length
  ·have hwb:=JO p _ (dh hlt);have hwr:=jcM.O.step hst (λk hk joD=>absurd (hks.O k joD) (by have:=(jcM.O.size k hk).1;omega))
   obtain⟨gw,cw',jvH,ew,hgw,hbw,zw⟩:=dX.CU hwr (g:=j) (by rw[D5];exact hlt)
   rw[jaO hlt]at zw
   obtain⟨wb,jeL⟩:∃x,x=(way p)[j]:=⟨_,rfl⟩;rw[<- jeL]at zw hwb
   have ji7:=ah jeL;clear jeL;obtain rfl:Aw=some ⟨gw,0,none⟩:=by injection ew
   clear ew;obtain⟨YR,f0,f1,f2,f3⟩:=hBx.own.tJ hm.ho hm.hk (show V'.aK o=_ by rw[hsb];exact e1)
   obtain⟨c0,c1,c2,c3,c4,c5,c6⟩:=hBx.cells;have q1:=λo d os=>cZ (w:=wr) (b:=b) hBx.lt o d os
   have q2:=λo d os=>cZ (w:=wr) (b:=gl) YR o d os
   have hV2:=ah (λd os=>(hBx.own.view hr.sane).up (kH wr d os) (kH wr d os).size)
   have hgood:=ah (hr.sane.aK hm.ho hm.hk);have hjl:(j:Int)<((way p).length:Int):=by omega
   have hr2:=ah hr.sane;have hbb:=ah (show 0<=(wb:Int)/\(wb:Int)<p.dP.length by omega)
   have S9:=ah hsb;clear hr hm htg hBx hst hwr hbw hsb;go_wp2_with fail;refine dO (by kernel_rfl) (by kernel_rfl) ?_
   repeat(go_big_quiet_step ((go_at_call 106;refine fV (jmJ _ _ p s' wb _ (hV2.O _ _) hr2.O hbb.O hgood.O.1))))
   refine wpQuiet_nil ?_
   intro W6 hw';have hb6:=dN hw';clear hw';generalize hmm:(if lW s' ↑wb (s'.aK o k).dW<m then lW s' ↑wb (s'.aK o k).dW else m)=mm
   have hmin:mm=min m (lW s' wb (s'.aK o k).dW):=by rw[<- hmm];split<;>omega
   have hav:=hm'.O.lW hr'.O hwb;have hmb:=hm'.O.eU;have hm0:=hm'.O.n0;have hgb:=hgood.O;have hmr:mm<=m/\m<=200/\0<=mm/\mm<=lW s' wb (s'.aK o k).dW:=by omega
   have hbr:0<=(s'.aK o k).eU/\(s'.aK o k).eU<=200:=by omega
   have OO:=ah (hst'.O.trans (.of_below hb6));have hBx6:=ah (jfh.O.below hb6);have hmin':=ah hmin;have hdr:uM o k but (wb::(way p).drop (j+1)) s' m=qM p s o k n but:=by rw[ji7.O,<- drop_at hlt];exact jja.O
   have hdr':=ah hdr;clear hmm hmin hav hmb hm0 hgb hdr q1 q2 zw f0 f1 f2 f3 c0 c1 c2 c3 c4 c5 c6 hV2;by_cases hsk:(wb:Int)=but\/mm<1
   ·have YP:=ah (show uM o k but ((way p).drop (j+1)) s' m=qM p s o k n but by rw[<- hdr'.O,zM (by rw[<- hmin'.O];exact hsk)])
    by_cases Qr:(wb:Int)=but
    ·have hq:((wb:Int)==but)=true:=by simpa using Qr
     clear hsk Qr;go_wp2_with fail;go_roundw
     case rel=>exact⟨j+1,s',m,V',S9.O,by omega,by go_num,rfl,hr'.O,hm'.O,YP.O,hBx6.O,OO.O⟩
     case measure=>simp[dY];omega
    ·have hq:((wb:Int)==but)=false:=by simpa using Qr
     have hlt1:mm<1:=hsk.resolve_left Qr;clear hsk Qr;go_wp2_with fail;go_roundw
     case rel=>exact⟨j+1,s',m,V',S9.O,by omega,by go_num,rfl,hr'.O,hm'.O,YP.O,hBx6.O,OO.O⟩
     case measure=>simp[dY];omega
   ·have Qr:¬(wb:Int)=but:=λh=>hsk (.inl h)
    have hge:1<=mm:=by omega
    have hfit:=ah (hm'.O.fits hwb hge hmr.1 hmr.2.2.2);have YP:=ah (show uM o k but ((way p).drop (j+1)) (uj s' o k wb mm) (m - mm)=qM p s o k n but by rw[<- hdr'.O,Hl Qr (by rw[<- hmin'.O];exact hge),<- hmin'.O])
    have hq:((wb:Int)==but)=false:=by simpa using Qr
    obtain⟨c0,c1,c2,c3,c4,c5,c6⟩:=hBx6.O.cells;have lZ:=qH hr2.O.aA;have jfa:aT<=W6.heap.size:=aU wu (aU XK.size (aU hst'.O.size hb6.size));clear hsk Qr;go_wp2_with fail;refine(jr6 _ _ s'.aA ⟨o,k,wb,mm⟩ (hBx6.O.own.aA.sl (by omega))).mono ?_
    rintro e W7 ⟨u7,rfl,hu7,hb7⟩;rw[jkS hr'.O hfit.O]at hu7 ⊢
    have G5:=ah (hBx6.O.below hb7);have jt1:=ah (hu7.from_ jfa);obtain⟨A7,c7,rfl⟩:=hu7.isSlice;clear hu7 c0 c1 c2 c3 c4 c5 c6;go_wp2_with (refine Iu rfl (.tmp 73) (.tmp 70) rfl rfl A7 _ c7 _ G5.O rfl rfl jt1.O (λw8 Kq BX=>?_);refine bD ?_)
    unfold Hid;obtain⟨jr0,f0,f1,f2,f3⟩:=Kq.own.tJ (s:={s' with aA:=(uj s' o k wb mm).aA}) hm'.O.ho hm'.O.hk (show V'.aK o=_ by rw[S9.O];exact e1)
    have O1:=ah Kq;have hw1:IntKind.i64.wrap ((s'.aK o k).eU - mm)=(s'.aK o k).eU - mm:=aP _ (by omega)
    have hw2:IntKind.i64.wrap (m - mm)=m - mm:=aP _ (by omega)
    have f3':w8.cell? ⟨gl,k*4+3,none⟩=some (.int .i64 (s'.aK o k).eU):=f3;clear Kq f0 f1 f2 f3;go_wp2_with (refine BO rfl (.tmp 81) (.tmp 79) rfl rfl (j:=3) (y:={s'.aK o k with eU:=(s'.aK o k).eU - mm}) O1.O hm'.O.ho hm'.O.hk (show V'.aK o=_ by rw[S9.O];exact e1) (by decide) rfl rfl rfl (λw9 jkg uQ=>?_);refine bD ?_)
    unfold Hid;have jkf:=ah (show Bx w9 aT b t rst {V' with aA:=.slice A7 (uj s' o k wb mm).aA.length c7} (uj s' o k wb mm)from jkg)
    have jje:=ah (((OO.O.trans (.of_below hb7)).trans (BX.mono λ_ h=>.inl h)).trans (uQ.mono λq hq=>.inr (by rw[hq,e1];rfl)))
    clear f3' jkg uQ BX;go_wp2_with fail;go_roundw
    case rel=>exact⟨j+1,uj s' o k wb mm,m - mm,_,by rw[S9.O],by omega,by go_num,rfl,OQ hr'.O hfit.O,hm'.O.held (Held.one hr'.O hfit.O) hmr.1,YP.O,jkf.O,jje.O⟩
    case measure=>simp[dY];omega
  ·obtain rfl:j=(way p).length:=by omega
   have dw:=ah (show(s',m)=qM p s o k n but by rw[<- jja.O,xH];rfl)
   have S9:=ah hsb;clear hr hm htg hBx hst hsb;go_wp2_with fail;go_ret
   exact⟨iK (by rw[<- dw.O]),V',S9.O,by rw[<- dw.O];exact jfh.O,(Step.of_below XK).trans hst'.O⟩
end
section
attribute [local go_sem] aV
attribute [local go_sem] Oper.semAt_some
abbrev G7(p:dG)(f:Bool):Type:={x:Nat // x<p.dP.length/\(mG p.dP x).front=f}
def qB(p:dG)(f:Bool):Nat->List (G7 p f)
 |0=>[]
 |k+1=>if h:k<p.dP.length/\(mG p.dP k).front=f then qB p f k++[(⟨k,h⟩:G7 p f)]else qB p f k
theorem Rh{p:dG}{f:Bool}{k:Nat}(h1:k<p.dP.length)(h2:(mG p.dP k).front=f):qB p f (k+1)=qB p f k++[⟨k,h1,h2⟩]:=by
 show(if h:k<p.dP.length/\(mG p.dP k).front=f then qB p f k++[(⟨k,h⟩:G7 p f)]else qB p f k)=_
 rw[dif_pos ⟨h1,h2⟩]
theorem ZG{p:dG}{f:Bool}{k:Nat}(h:(mG p.dP k).front≠f):qB p f (k+1)=qB p f k:=by
 show(if h:k<p.dP.length/\(mG p.dP k).front=f then qB p f k++[(⟨k,h⟩:G7 p f)]else qB p f k)=_
 rw[dif_neg (λhh=>h hh.2)]
theorem Ri(p:dG)(f:Bool):∀k,k<=p.dP.length->(qB p f k).map Subtype.val=vT p f k
 |0,_=>rfl
 |k+1,hk=>by
  have ih:=Ri p f k (by omega)
  by_cases hf:(mG p.dP k).front=f
  ·rw[Rh (by omega) hf,FU hf,gJ,ih]
   rfl
  ·rw[ZG hf,Hw hf,ih]
theorem QD(p:dG)(f:Bool):∀k,(qB p f k).length<=k
 |0=>ay _
 |k+1=>by
  have ih:=QD p f k;show(if h:k<p.dP.length/\(mG p.dP k).front=f then qB p f k++[(⟨k,h⟩:G7 p f)]else qB p f k).length<=k+1
  split
  ·rw[aX,pX];omega
  ·omega
theorem Rj(p:dG)(f:Bool):∀n k,k<=n->∃r,qB p f n=qB p f k++r
 |0,k,h=>by
  obtain rfl:k=0:=by omega
  exact⟨[],rfl⟩
 |n+1,k,h=>by
  by_cases he:k=n+1
  ·exact⟨[],by rw[he,jd]⟩
  ·obtain⟨r,hr⟩:=Rj p f n k (by omega)
   by_cases hh:n<p.dP.length/\(mG p.dP n).front=f
   ·exact⟨r++[⟨n,hh⟩],by rw[Rh hh.1 hh.2,hr,gZ]⟩
   ·refine⟨r,?_⟩
    rw[<- hr];show(if h:n<p.dP.length/\(mG p.dP n).front=f then qB p f n++[(⟨n,h⟩:G7 p f)]else qB p f n)=_
    rw[dif_neg hh]
theorem jhF(F:Fence)(n:Nat)(h7:F.fn 153)(hro:F.round=none)(hn:1<=n)(l Bp Bf n₀:Nat)(p:dG)(f:Bool)(Ab As:Option Addr)(cb cs:Nat)(hlb:p.dP.length<=6)(J Jx:List (G7 p f)->World->Prop)
  (hY:∀(pre:List (G7 p f)) (x:G7 p f) W,J pre W->pre.length<p.dP.length->YieldAt F (n - 1) prog l #[.int .i64 ((x.1:Nat):Int)] W λe W'=>
   (e=.returned (.bool true)/\J (pre++[x]) W'/\KpB n₀ Bf W W')\/(e=.returned (.bool false)/\Jx (pre++[x]) W'))
  (W:World) (hn0:n₀<=W.heap.size) (hJ:AbidesFrom W J) (hBf:Bf<W.heap.size) (hp0:W.cell? Bp=some (.slice Ab p.dP.length cb)) (_:W.cell? ⟨Bp,1,none⟩=some (.slice As p.aW.length cs))
  (hf:W.cell? Bf=some (.bool f)) (hA:At W n₀ Ab (p.dP.flatMap Qv)) (h0:J [] W):
  CallsIn F n prog 153 #[.func (.yield l) #[] #[],.pointer (some Bp),.pointer (some Bf)] W λe W'=>(∃v,e=.returned v)/\
   ((∃ys,ys=qB p f p.dP.length/\J ys W')\/(∃pre,(∃k,k<=p.dP.length/\pre=qB p f k)/\Jx pre W')):=by
 refine nT func153 rfl h7 ?_ hro
 simp only[ntmps153,iR,bP,dQ,Nat.reduceAdd,Nat.reduceSub,gW,iG,jh,iM,fJ,gG];gi_wp2
 gi_loopw [9] (λi wr=>∃k:Nat,k<=p.dP.length/\i=.int .i64 k/\J (qB p f k) wr/\KpB n₀ Bf W wr)
  (λi _=>p.dP.length - (RowKit.intOf i).toNat)
 case atStart=>exact⟨0,aN _,rfl,h0,aj _ _,rfl⟩
 case round=>
  obtain⟨k,hk,rfl,hJs,hnx,hnf⟩:=hrel;by_cases hlt:k<p.dP.length
  ·obtain⟨hok,MW,b0,b1,b2,b3⟩:=(hA.up hnx (ay _)).bin hlt;have g0:=hnf.trans hf;have hBw:Bf<wr.heap.size:=by have:=hnx.size;omega
   have hJa:=hJ _ _ _ none hJs (oK wr (.cells #[.bool (mG p.dP k).front,.int .i64 (mG p.dP k).room,.int .i64 (mG p.dP k).low,.int .i64 (mG p.dP k).high] 66) none) (λr h=>by cases h)
   have hBa:Below n₀ wr (wr.alloc (.cells #[.bool (mG p.dP k).front,.int .i64 (mG p.dP k).room,.int .i64 (mG p.dP k).low,.int .i64 (mG p.dP k).high] 66)):=(aj _ _).alloc (by have:=hnx.size;omega) _
   have hca:(wr.alloc (.cells #[.bool (mG p.dP k).front,.int .i64 (mG p.dP k).room,.int .i64 (mG p.dP k).low,.int .i64 (mG p.dP k).high] 66)).cell? Bf=wr.cell? ⟨Bf,0,none⟩:=
    ((aj wr wr).alloc (ay _) _).cell (p:=Bf) hBw
   cases hfr:((mG p.dP k).front==f)
   ·have hno:=ZG (p:=p) (f:=f) (k:=k) (by simpa using hfr)
    gi_wp2
    refine⟨λ_ h=>(by cases h),?_⟩
    gi_wp2
    go_roundw
    case rel=>exact⟨k+1,by omega,by simp,by rw[hno];exact hJa,hnx.trans hBa,hca.trans hnf⟩
    case measure=>simp[dY];omega
   ·have hfk:=ah (show(mG p.dP k).front=f by simpa using hfr)
    have hyes:=Rh hlt hfk.O;obtain⟨fn,tmps,assign,body,hy,hR⟩:YieldAt F (n - 1) prog l #[.int .i64 ((k:Nat):Int)] _ _:=hY _ ⟨k,hlt,hfk.O⟩ _ hJa (by have:=QD p f k;omega)
    gi_wp2
    refine hR.mono ?_
    rintro e W3 (⟨rfl,hJ3,hk3⟩|⟨rfl,hJx3⟩)
    ·gi_wp2
     go_roundw
     case rel=>exact⟨k+1,by omega,by simp,by rw[hyes];exact hJ3,(hnx.trans hBa).trans hk3.1,(hk3.2.trans hca).trans hnf⟩
     case measure=>simp[dY];omega
    ·gi_wp2
     refine bV (uU rfl _ _ _) rfl ?_
     exact⟨⟨_,rfl⟩,.inr ⟨_,⟨k+1,by omega,hyes.symm⟩,hJx3⟩⟩
  ·obtain rfl:k=p.dP.length:=by omega
   gi_wp2
   go_end0
   exact⟨⟨_,rfl⟩,.inl ⟨_,rfl,hJs⟩⟩
theorem Ve(F:Fence)(n:Nat)(h7:F.fn 153)(hro:F.round=none)(hn:1<=n)(Bp Bf n₀:Nat)(p:dG)(f:Bool)(Ab As:Option Addr)(cb cs:Nat)(hlb:p.dP.length<=6)(w:World)(hn0:n₀<=w.heap.size)(hBp:Bp<w.heap.size)(hBf:Bf<w.heap.size)
  (hp0:w.cell? Bp=some (.slice Ab p.dP.length cb)) (hp1:w.cell? ⟨Bp,1,none⟩=some (.slice As p.aW.length cs)) (hf:w.cell? Bf=some (.bool f)) (hA:At w n₀ Ab (p.dP.flatMap Qv)):
  SeqStopsK F n prog 153 #[.pointer (some Bp),.pointer (some Bf)] (λx:G7 p f=>#[Value.int .i64 ((x.1:Nat):Int)]) (KpB n₀ Bf) (λys=>ys=qB p f p.dP.length) (λpre=>∃k,k<=p.dP.length/\pre=qB p f k) p.dP.length w:=λl J Jx W hW hJ _ hY h0=>
 jhF F n h7 hro hn l Bp Bf n₀ p f Ab As cb cs hlb J Jx hY W (aU hn0 hW.size) hJ (aJ hBf hW.size) ((hW.cell (p:=Bp) hBp).trans hp0) ((hW.cell (p:=⟨Bp,1,none⟩) hBp).trans hp1)
  ((hW.cell (p:=Bf) hBf).trans hf) (hA.up (hW.mono hn0) (ay _)) h0
section
variable {w w':World} {aT:Nat}
theorem Own.wS{α:Type}{enc:α->List Value}{size:Nat}{e:TypeId}{v:Value}{l:List α}{row:Option Nat}(h:Own enc size e w aT v l)(hg:w.grownBy w' row)(hr:∀r,row=some r->∃o:Obj,w.heap[r]?=some o/\o.isCells=false):Own enc size e w' aT v l:=by
 refine h.kept hg ?_
 cases hv:v.ownBlock with
 |none=>exact .inl rfl
 |some g=>
  refine .inr λhe=>?_
  obtain⟨cur,hc⟩:=h.block hv;obtain⟨o,ho,hn⟩:=hr g he.symm;rw[hc]at ho
  injection ho with ho
  subst ho;cases hn
theorem dX.wS{V:SV}{s:aI}{row:Option Nat}(h:dX w aT V s)(hg:w.grownBy w' row)(hr:∀r,row=some r->∃o:Obj,w.heap[r]?=some o/\o.isCells=false):dX w' aT V s:=
 ⟨h.on.wS hg hr,h.rlen,λb hlt=>(h.row b hlt).wS hg hr,h.ak.wS hg hr,h.llen,λo ho=>(h.aK o ho).wS hg hr,h.aA.wS hg hr,h.aF.wS hg hr,h.jf.wS hg hr,h.O.wS hg hr,h.dB.wS hg hr,h.apart,h.yT⟩
theorem Bx.wS{b:Nat}{t:TypeId}{rest:List Value}{V:SV}{s:aI}{row:Option Nat}(h:Bx w aT b t rest V s)(hg:w.grownBy w' row)(hr:∀r,row=some r->∃o:Obj,w.heap[r]?=some o/\o.isCells=false):Bx w' aT b t rest V s:=by
 refine⟨h.box.grown hg λhe=>?_,h.own.wS hg hr,h.ty⟩
 obtain⟨o,ho,hn⟩:=hr b he.symm;have hb:w.heap[b]?=_:=h.box;rw[hb]at ho
 injection ho with ho
 subst ho;cases hn
end
end
section
theorem IG{B:Nat}{W W':World}{row:Option Nat}(hg:W.grownBy W' row)(hr:∀r,row=some r->∃cs t sp,W.heap[r]?=some (.cells cs t sp)):KeepsFrom B W W':=
 ⟨hg.size,λk o _ hk hn=>(hg.block k (bI.1 hk).1 (λe=>by
  obtain⟨cs,t,sp,hc⟩:=hr k e.symm;rw[hc]at hk
  injection hk with hk
  subst hk;cases hn)).trans hk⟩
theorem Ef{B:Nat}{W W':World}(h:Below W W W'):KeepsFrom B W W':=⟨h.size,λk _ _ hk _=>(h.block k (bI.1 hk).1).trans hk⟩
theorem Bx.jik{w:World}{aT b:Nat}{t:TypeId}{rest:List Value}{V:SV}{s:aI}(h:Bx w aT b t rest V s){r:Nat}(hr:some r=V.aF.ownBlock):∃cs t sp,w.heap[r]?=some (.cells cs t sp):=by
 obtain⟨cur,hc⟩:=h.own.aF.block hr.symm;exact⟨_,_,_,hc⟩
theorem jim(p:dG)(f:Bool)(n:Nat)(h2:2<=n){g:Operand}{q sb:Nat}{assign body:Code}{Q:Exit->Act->World->Prop}{a:Act}{w:World}(Bp Bf n₀:Nat)(Ab As:Option Addr)(cb cs:Nat)(hlb:p.dP.length<=6)(hn0:n₀<=w.heap.size)(hBp:Bp<w.heap.size)(hBf:Bf<w.heap.size)
  (hg:a.eval g=.func (.func 153) #[] #[.pointer (some Bp),.pointer (some Bf)])
  (hp0:w.cell? Bp=some (.slice Ab p.dP.length cb)) (hp1:w.cell? ⟨Bp,1,none⟩=some (.slice As p.aW.length cs)) (hf:w.cell? Bf=some (.bool f)) (hA:At w n₀ Ab (p.dP.flatMap Qv))
  (I:List (G7 p f)->World->Prop) (Ix:Code->List (G7 p f)->World->Prop) (hI:OwnFrom w I) (hIx:∀c,OwnFrom w (Ix c)) (h0:I [] w) (hsz:∀pre W,I pre W->w.heap.size<=W.heap.size)
  (wV:∀(l:Nat) (x:G7 p f) (W:World) (K:Act->World->Prop),K {tmps:=(a.tmps.setIfInBounds q (.int .i64 ((x.1:Nat):Int))).setIfInBounds sb (.pointer (some W)),defers:=[]} (W.alloc (.cells #[.int .i64 ((x.1:Nat):Int)] 3))->
   assign.wpIn (Fence.wide.inRound l) (n - 1 - 1) prog (Exit.then K (λ_ _ _=>False)) {tmps:=a.tmps.setIfInBounds q (.int .i64 ((x.1:Nat):Int)),defers:=[]} W)
  (hbody:∀(l:Nat) (pre:List (G7 p f)) (x:G7 p f) (B:Nat) (W:World),w.heap.size<=l->(∃r,W.heap[l]?=some (.loop r))->I pre W->Boxed W B 3 (.int .i64 ((x.1:Nat):Int))->w.heap.size<=B->
   body.wpIn (Fence.wide.inRound l) (n - 1 - 1) prog (ownPostG w (KpB n₀ Bf) I Ix (pre++[x]) W) {tmps:=(a.tmps.setIfInBounds q (.int .i64 ((x.1:Nat):Int))).setIfInBounds sb (.pointer (some B)),defers:=[]} W)
  (Ei:∀(D:Nat) (W:World),w.heap.size<=D->I (qB p f p.dP.length) W->W.heap[D]?=some (.deferred (some []))->Q .normal {a with defers:={target:=.collected D,args:=#[]}::a.defers} W)
  (hstop:∀(D:Nat) (c:Code) (k:Nat) (W:World),w.heap.size<=D->k<=p.dP.length->Ix c (qB p f k) W->W.heap[D]?=some (.deferred (some []))->c.wpIn Fence.wide n prog Q {a with defers:={target:=.collected D,args:=#[]}::a.defers} W):
  (Code.rangeFunc g #[q] assign body).wpIn Fence.wide n prog Q a w:=by
 refine wpIn_rangeFunc_ownH rfl (by omega) (gf:=153) (lb:=#[.pointer (some Bp),.pointer (some Bf)]) hg trivial (enters_of func153 (by kernel_rfl) rfl)
  (Ve Fence.wide (n - 1) trivial rfl (by omega) Bp Bf n₀ p f Ab As cb cs hlb w hn0 hBp hBf hp0 hp1 hf hA)
  (λh k=>⟨h.1.trans k.1,k.2.trans h.2⟩)
  (λW l o o' hl ho hc hw=>⟨belowK_b hn0 W l o o' hl ho hc hw,((aj w W).grown (grownBy_putObj' W l o') (by have:=(bI.1 ho).1;omega) (λk e=>by cases e;exact hl)).cell (p:=Bf) hBf⟩)
  (aj _ _) (λ_=>rfl) I Ix hI hIx h0
  (λx a' W=>∃B,w.heap.size<=B/\a'={tmps:=(a.tmps.setIfInBounds q (.int .i64 ((x.1:Nat):Int))).setIfInBounds sb (.pointer (some ⟨B,0,none⟩)),defers:=[]}/\Boxed W B 3 (.int .i64 ((x.1:Nat):Int)))
  (λx a' _ X Y row hs hg' hr=>by
   obtain⟨B,h1,h3,h4⟩:=hs;exact⟨B,h1,h3,(boxed_own B 3 (λ_:Unit=>Value.int .i64 ((x.1:Nat):Int))) () X Y row h4 hg' (λr e=>(hr r e).2)⟩)
  (λl pre x W K hIp hK=>?_) (λl pre x a' W hl hr hIp hAx hlt=>?_) (λD xs W hD hS hIp hW=>?_) (λD c pre W hD hS hIp hW=>?_)
 ·have hz:Array.foldl (λt (x:Nat×Value)=>match x with|(p,v)=>t.setIfInBounds p v) a.tmps (#[q].zip #[Value.int .i64 ((x.1:Nat):Int)])=a.tmps.setIfInBounds q (.int .i64 ((x.1:Nat):Int)):=by simp
  rw[hz];refine wV l x W K (hK _ _ (IG (oK W _ none) (λr e=>by cases e)) ⟨(aj _ _).alloc (aU hn0 (hsz _ _ hIp)) _,((aj W W).alloc (ay _) _).cell (p:=Bf) (aJ hBf (hsz _ _ hIp))⟩ (hI.alloc _ hIp) ⟨W.heap.size,hsz _ _ hIp,rfl,Boxed.new W _ _⟩)
 ·obtain⟨B,h1,rfl,h4⟩:=hAx;exact hbody l pre x B W hl hr hIp h4 h1
 ·subst hS;exact Ei D W hD hIp hW
 ·obtain⟨k,hk,rfl⟩:=hS;exact hstop D c k W hD hk hIp hW
theorem jeb(p:dG)(f:Bool)(n l₀:Nat)(h2:2<=n){g:Operand}{q sb:Nat}{assign body:Code}{Q:Exit->Act->World->Prop}{a:Act}{w:World}{r₀:Loop}(hl₀:w.heap[l₀]?=some (.loop r₀))(Bp Bf n₀:Nat)(Ab As:Option Addr)(cb cs:Nat)(hlb:p.dP.length<=6)(hn0:n₀<=w.heap.size)(hBp:Bp<w.heap.size)(hBf:Bf<w.heap.size)
  (hg:a.eval g=.func (.func 153) #[] #[.pointer (some Bp),.pointer (some Bf)])
  (hp0:w.cell? Bp=some (.slice Ab p.dP.length cb)) (hp1:w.cell? ⟨Bp,1,none⟩=some (.slice As p.aW.length cs)) (hf:w.cell? Bf=some (.bool f)) (hA:At w n₀ Ab (p.dP.flatMap Qv))
  (I:List (G7 p f)->World->Prop) (Ix:Code->List (G7 p f)->World->Prop) (hI:OwnFrom w I) (hIx:∀c,OwnFrom w (Ix c)) (h0:I [] w)
  (wV:∀(l:Nat) (x:G7 p f) (W:World) (K:Act->World->Prop),K {tmps:=(a.tmps.setIfInBounds q (.int .i64 ((x.1:Nat):Int))).setIfInBounds sb (.int .i64 ((x.1:Nat):Int)),defers:=[]} W->
   assign.wpIn (Fence.wide.inRound l) (n - 1 - 1) prog (Exit.then K (λ_ _ _=>False)) {tmps:=a.tmps.setIfInBounds q (.int .i64 ((x.1:Nat):Int)),defers:=[]} W)
  (hbody:∀(l:Nat) (pre:List (G7 p f)) (x:G7 p f) (W:World),I pre W->
   body.wpIn (Fence.wide.inRound l) (n - 1 - 1) prog (ownPostG w (KpB n₀ Bf) I Ix (pre++[x]) W) {tmps:=(a.tmps.setIfInBounds q (.int .i64 ((x.1:Nat):Int))).setIfInBounds sb (.int .i64 ((x.1:Nat):Int)),defers:=[]} W)
  (Ei:∀(W:World),I (qB p f p.dP.length) W->Q .normal a W)
  (hstop:∀(c:Code) (k:Nat) (W:World),k<=p.dP.length->Ix c (qB p f k) W->c.wpIn (Fence.wide.inRound l₀) n prog Q a W):
  (Code.rangeFunc g #[q] assign body).wpIn (Fence.wide.inRound l₀) n prog Q a w:=by
 refine wpIn_rangeFunc_ownN (F:=Fence.wide.inRound l₀) (l₀:=l₀) rfl hl₀ (by omega) (gf:=153) (lb:=#[.pointer (some Bp),.pointer (some Bf)]) hg trivial (enters_of func153 (by kernel_rfl) rfl)
  (SeqStopsK.inRound l₀ (Ve Fence.wide (n - 1) trivial rfl (by omega) Bp Bf n₀ p f Ab As cb cs hlb w hn0 hBp hBf hp0 hp1 hf hA))
  (λh k=>⟨h.1.trans k.1,k.2.trans h.2⟩)
  (λW l o o' hl ho hc hw=>⟨belowK_b hn0 W l o o' hl ho hc hw,((aj w W).grown (grownBy_putObj' W l o') (by have:=(bI.1 ho).1;omega) (λk e=>by cases e;exact hl)).cell (p:=Bf) hBf⟩)
  (aj _ _) (λ_=>rfl) I Ix hI hIx h0
  (λx a' _=>a'={tmps:=(a.tmps.setIfInBounds q (.int .i64 ((x.1:Nat):Int))).setIfInBounds sb (.int .i64 ((x.1:Nat):Int)),defers:=[]})
  (λx a' _ X Y row hs hg' hr=>hs)
  (λl pre x W K hIp hK=>?_) (λl pre x a' W hl hr hIp hAx hlt=>?_) (λxs W hS hIp=>?_) (λc pre W hS hIp=>?_)
 ·have hz:Array.foldl (λt (x:Nat×Value)=>match x with|(p,v)=>t.setIfInBounds p v) a.tmps (#[q].zip #[Value.int .i64 ((x.1:Nat):Int)])=a.tmps.setIfInBounds q (.int .i64 ((x.1:Nat):Int)):=by simp
  rw[hz];exact wV l x W K (hK _ _ (KeepsFrom.refl _ _) ⟨aj _ _,rfl⟩ hIp rfl)
 ·subst hAx;exact hbody l pre x W hIp
 ·subst hS;exact Ei W hIp
 ·obtain⟨k,hk,rfl⟩:=hS;exact hstop c k W hk hIp
end
section
theorem YI(n:Nat)(h2:3<=n){g:Operand}{q1 q2 s1 s2:Nat}{assign body:Code}{Q:Exit->Act->World->Prop}{a:Act}{w:World}(Bs:Nat)(A:Option Addr)(c:Nat)(xs:List Move)(lZ:xs.length<=1000000)
  (hg:a.eval g=.func (.func 199) #[] #[.pointer (some Bs)])
  (I:Nat->World->Prop) (hI:OwnFrom w I) (h0:I 0 w) (hR:∀k V,I k V->jah Bs A c xs k V) (hsz:∀k V,I k V->w.heap.size<=V.heap.size)
  (wV:∀(l x:Nat) (W:World) (K:Act->World->Prop),K {tmps:=(((a.tmps.setIfInBounds q1 ((x:Nat))).setIfInBounds q2 (EW (bZ xs x))).setIfInBounds s1 ((x:Nat))).setIfInBounds s2 (.pointer (some W)),defers:=[]} (W.alloc (IE (bZ xs x)))->
   assign.wpIn (Fence.wide.inRound l) (n - 1 - 1) prog (Exit.then K (λ_ _ _=>False)) {tmps:=(a.tmps.setIfInBounds q1 ((x:Nat))).setIfInBounds q2 (EW (bZ xs x)),defers:=[]} W)
  (hbody:∀(l k x X:Nat) (W:World),x+k+1=xs.length->I k W->iJ W X 118 [.int .i64 (bZ xs x).dW,.int .i64 (bZ xs x).src,.int .i64 (bZ xs x).dst,.int .i64 (bZ xs x).n]->w.heap.size<=X->
   body.wpIn (Fence.wide.inRound l) (n - 1 - 1) prog (Exit.then (λ_ W'=>KeepsFrom w W W'/\I (k+1) W') (λ_ _ _=>False)) {tmps:=(((a.tmps.setIfInBounds q1 ((x:Nat))).setIfInBounds q2 (EW (bZ xs x))).setIfInBounds s1 ((x:Nat))).setIfInBounds s2 (.pointer (some X)),defers:=[]} W)
  (Ei:∀(D:Nat) (W:World),w.heap.size<=D->I xs.length W->W.heap[D]?=some (.deferred (some []))->Q .normal {a with defers:={target:=.collected D,args:=#[]}::a.defers} W):
  (Code.rangeFunc g #[q1,q2] assign body).wpIn Fence.wide n prog Q a w:=by
 refine JL (F:=Fence.wide) rfl (by omega) (gf:=199) (lb:=#[.pointer (some Bs)]) hg trivial (enters_of func199 (by kernel_rfl) rfl)
  (encs:=λx:Nat=>#[(x:Nat),EW (bZ xs x)]) (λ_=>rfl) (λpre W=>I pre.length W) (λs A B row hs hg hr=>hI _ A B row hs hg hr) h0 (λpre x=>x+pre.length+1=xs.length) (λys=>ys.length=xs.length)
  (λl J W _ hJ _ hY hJ0=>jbu (n - 1) l Bs A c xs (by omega) lZ J W (λpre V h=>hR _ _ (hJ pre V h)) hY hJ0)
  (λx a' W=>∃X,w.heap.size<=X/\iJ W X 118 [.int .i64 (bZ xs x).dW,.int .i64 (bZ xs x).src,.int .i64 (bZ xs x).dst,.int .i64 (bZ xs x).n]/\a'={tmps:=(((a.tmps.setIfInBounds q1 ((x:Nat))).setIfInBounds q2 (EW (bZ xs x))).setIfInBounds s1 ((x:Nat))).setIfInBounds s2 (.pointer (some ⟨X,0,none⟩)),defers:=[]})
  (λx a' _ X Y row hs hg' hr=>by
   obtain⟨B,h1,h3,h4⟩:=hs;refine⟨B,h1,h3.grown hg' λe=>?_,h4⟩
   obtain⟨o,ho,hn⟩:=(hr _ e.symm).2;have h3':X.heap[B]?=_:=h3;rw[h3']at ho
   injection ho with ho
   subst ho;cases hn)
  (λl pre x W K hi hK=>?_) (λl pre x a' W _ hi hx hax=>?_) (λD ys W hD hS hi hd=>?_)
 ·have hz:Array.foldl (λt (x:Nat×Value)=>match x with|(p,v)=>t.setIfInBounds p v) a.tmps (#[q1,q2].zip #[Value.int .i64 ((x:Nat):Int),EW (bZ xs x)])=(a.tmps.setIfInBounds q1 ((x:Nat))).setIfInBounds q2 (EW (bZ xs x)):=by simp
  rw[hz];refine wV l x W K (hK _ _ (IG (oK W _ none) (λr e=>by cases e)) (hI.alloc _ hi) ⟨W.heap.size,hsz _ _ hi,iJ.new _ _ _,rfl⟩)
 ·obtain⟨X,hX,hb,rfl⟩:=hax;have:=hbody l pre.length x X W hx hi hb hX;have e:(pre++[x]).length=pre.length+1:=by simp
  rw[e];exact this
 ·rw[hS]at hi
  exact Ei D W hD hi hd
theorem YJ(n:Nat)(h2:3<=n){g:Operand}{q1 q2 s1 s2:Nat}{assign body:Code}{Q:Exit->Act->World->Prop}{a:Act}{w:World}(Bs:Nat)(A:Option Addr)(c:Nat)(xs:List eX)(lZ:xs.length<=1000000)
  (hg:a.eval g=.func (.func 201) #[] #[.pointer (some Bs)])
  (I:Nat->World->Prop) (hI:OwnFrom w I) (h0:I 0 w) (hR:∀k V,I k V->jai Bs A c xs k V) (hsz:∀k V,I k V->w.heap.size<=V.heap.size)
  (wV:∀(l x:Nat) (W:World) (K:Act->World->Prop),K {tmps:=(((a.tmps.setIfInBounds q1 ((x:Nat))).setIfInBounds q2 (uK (hold xs x))).setIfInBounds s1 ((x:Nat))).setIfInBounds s2 (.pointer (some W)),defers:=[]} (W.alloc (nC (hold xs x)))->
   assign.wpIn (Fence.wide.inRound l) (n - 1 - 1) prog (Exit.then K (λ_ _ _=>False)) {tmps:=(a.tmps.setIfInBounds q1 ((x:Nat))).setIfInBounds q2 (uK (hold xs x)),defers:=[]} W)
  (hbody:∀(l k x X:Nat) (W:World),x+k+1=xs.length->I k W->iJ W X 116 [.int .i64 (hold xs x).aC,.int .i64 (hold xs x).aK,.int .i64 (hold xs x).bin,.int .i64 (hold xs x).n]->w.heap.size<=X->
   body.wpIn (Fence.wide.inRound l) (n - 1 - 1) prog (Exit.then (λ_ W'=>KeepsFrom w W W'/\I (k+1) W') (λ_ _ _=>False)) {tmps:=(((a.tmps.setIfInBounds q1 ((x:Nat))).setIfInBounds q2 (uK (hold xs x))).setIfInBounds s1 ((x:Nat))).setIfInBounds s2 (.pointer (some X)),defers:=[]} W)
  (Ei:∀(D:Nat) (W:World),w.heap.size<=D->I xs.length W->W.heap[D]?=some (.deferred (some []))->Q .normal {a with defers:={target:=.collected D,args:=#[]}::a.defers} W):
  (Code.rangeFunc g #[q1,q2] assign body).wpIn Fence.wide n prog Q a w:=by
 refine JL (F:=Fence.wide) rfl (by omega) (gf:=201) (lb:=#[.pointer (some Bs)]) hg trivial (enters_of func201 (by kernel_rfl) rfl)
  (encs:=λx:Nat=>#[(x:Nat),uK (hold xs x)]) (λ_=>rfl) (λpre W=>I pre.length W) (λs A B row hs hg hr=>hI _ A B row hs hg hr) h0 (λpre x=>x+pre.length+1=xs.length) (λys=>ys.length=xs.length)
  (λl J W _ hJ _ hY hJ0=>jbv (n - 1) l Bs A c xs (by omega) lZ J W (λpre V h=>hR _ _ (hJ pre V h)) hY hJ0)
  (λx a' W=>∃X,w.heap.size<=X/\iJ W X 116 [.int .i64 (hold xs x).aC,.int .i64 (hold xs x).aK,.int .i64 (hold xs x).bin,.int .i64 (hold xs x).n]/\a'={tmps:=(((a.tmps.setIfInBounds q1 ((x:Nat))).setIfInBounds q2 (uK (hold xs x))).setIfInBounds s1 ((x:Nat))).setIfInBounds s2 (.pointer (some ⟨X,0,none⟩)),defers:=[]})
  (λx a' _ X Y row hs hg' hr=>by
   obtain⟨B,h1,h3,h4⟩:=hs;refine⟨B,h1,h3.grown hg' λe=>?_,h4⟩
   obtain⟨o,ho,hn⟩:=(hr _ e.symm).2;have h3':X.heap[B]?=_:=h3;rw[h3']at ho
   injection ho with ho
   subst ho;cases hn)
  (λl pre x W K hi hK=>?_) (λl pre x a' W _ hi hx hax=>?_) (λD ys W hD hS hi hd=>?_)
 ·have hz:Array.foldl (λt (x:Nat×Value)=>match x with|(p,v)=>t.setIfInBounds p v) a.tmps (#[q1,q2].zip #[Value.int .i64 ((x:Nat):Int),uK (hold xs x)])=(a.tmps.setIfInBounds q1 ((x:Nat))).setIfInBounds q2 (uK (hold xs x)):=by simp
  rw[hz];refine wV l x W K (hK _ _ (IG (oK W _ none) (λr e=>by cases e)) (hI.alloc _ hi) ⟨W.heap.size,hsz _ _ hi,iJ.new _ _ _,rfl⟩)
 ·obtain⟨X,hX,hb,rfl⟩:=hax;have:=hbody l pre.length x X W hx hi hb hX;have e:(pre++[x]).length=pre.length+1:=by simp
  rw[e];exact this
 ·rw[hS]at hi
  exact Ei D W hD hi hd
end
end Wh
