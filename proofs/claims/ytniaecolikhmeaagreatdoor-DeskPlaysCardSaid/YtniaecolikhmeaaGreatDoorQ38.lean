/- Texts of the claim, joined. -/
import Derived.Test.YtniaecolikhmeaaGreatDoorQ28
import Derived.Test.YtniaecolikhmeaaGreatDoorQ36
set_option maxHeartbeats 20000000
set_option maxRecDepth 100000
set_option linter.all false
namespace Wh
open Go Go.RowKit Go.Shelf Go.Proofs Tryz
section
attribute [local go_sem] aV jF iY jI
theorem PV(c:Nat):∀(t x:List Nat),x∈splitB c t->(∀n∈x,n∈t)/\x.length<=t.length
 |[],x,h=>by
  rw[splitB,ig]at h
  subst h;simp
 |y::r,x,h=>by
  have ih:=PV c r;rw[splitB]at h
  split at h
  ·rcases fF.1 h with rfl|h
   ·simp
   ·exact⟨λn hn=>aY _ ((ih x h).1 n hn),Nat.le_succ_of_le (ih x h).2⟩
  ·have e:=KT (c:=c) (t:=r);rcases fF.1 h with rfl|h
   ·obtain⟨h1,h2⟩:=ih ((splitB c r).headD []) (by rw[<- e];exact bW ..)
    exact⟨λn hn=>by rcases fF.1 hn with rfl|hn;exact bW ..;exact aY _ (h1 n hn),by simpa using h2⟩
   ·obtain⟨h1,h2⟩:=ih x (by rw[<- e];exact aY _ h)
    exact⟨λn hn=>aY _ (h1 n hn),Nat.le_succ_of_le h2⟩
theorem jfP{w:World}{B g c:Nat}{op:List Nat}{r:List (List Nat)}(h:Sl cStr w B (.slice (some g) (r.length+1) c) (op::r)){o' c':Nat}(ho:o'=1\/r.length=0)(hn:r.length<=5000):Sl cStr w B (.slice (some ⟨g,o',none⟩) r.length c') r:=by
 refine⟨_,_,rfl,by omega,?_⟩
 rcases ho with rfl|ho
 ·intro hne;have ha:=h.at_;have hp:0<((op::r).flatMap cStr).length:=by simp[cStr]
  refine⟨SE _ _,ha.lt hp,λj v hj=>?_⟩
  have:=ha.cell (j:=j+1) (v:=v) (by rw[lI];simpa[cStr]using hj)
  have e:l9 (some (⟨g,0,none⟩:Addr))+(j+1)=l9 (some (⟨g,1,none⟩:Addr))+j:=by show 0+(j+1)=1+j;omega
  rw[e]at this
  exact this
 ·rw[jT ho];exact At.nil
theorem Sv(w:World)(n:Nat)(hn:n<=9223372036854775807):Calls prog 45 #[n] w λe w'=>e=.returned (.string (eY (refused n)))/\Below w w w':=by
 have hsz:=pK (digits n);have hdl:=En 18 n (by omega)
 have hap:(⟨#[101,114,114,111,114,32]⟩:ByteArray)++eY (digits n)=eY (refused n):=GL [101,114,114,111,114,32] (digits n);go_enter func45,ntmps45
 go_wp2_with (go_at_call 46;refine(VH n _ hn).mono ?_;rintro e W1 ⟨rfl,hb1⟩)
 exact bV (v:=.string (eY (refused n))) (by simp[results,results45,go_sem]) rfl ⟨rfl,hb1⟩
theorem jfB(w:World)(p:dG)(V:SV)(Ab:Option Addr)(cb:Nat)(As:Option Addr)(cs:Nat):∃W0:World,((w.alloc (kD p Ab cb As cs)).alloc (.cells #[V.on,V.ak,V.aA,V.aF,V.jf,V.O,V.dB] 40)).alloc (.cells TL 40)=W0/\Below w w W0/\
  iJ W0 w 25 [.slice Ab p.dP.length cb,.slice As p.aW.length cs]/\jB W0 (w.heap.size+1) V/\jB W0 (w.heap.size+1+1) dV/\W0.heap.size=w.heap.size+1+1+1:=by
 have h1:iJ (w.alloc (kD p Ab cb As cs)) w 25 [.slice Ab p.dP.length cb,.slice As p.aW.length cs]:=iJ.new _ _ _;have h2:=iJ.new (w.alloc (kD p Ab cb As cs)) 40 #[V.on,V.ak,V.aA,V.aF,V.jf,V.O,V.dB];have h3:=iJ.new ((w.alloc (kD p Ab cb As cs)).alloc (.cells #[V.on,V.ak,V.aA,V.aF,V.jf,V.O,V.dB] 40)) 40 TL;simp only[dK]at h2 h3
 exact⟨_,rfl,(((aj _ _).alloc (ay _) _).alloc (by simp) _).alloc (by simp;omega) _,(h1.alloc _).alloc _,h2.alloc _,h3,by simp⟩
theorem jkG{c:Prop}[Decidable c]{a b:aI×Int}(ha:0<=a.2/\a.2<=8)(hb:0<=b.2/\b.2<=8):0<=(if c then a else b).2/\(if c then a else b).2<=8:=by split<;>assumption
theorem Ym{p:dG}{s:aI}{x:Qw}(h:aO p s=0):0<=(act p s x).2/\(act p s x).2<=8:=by
 unfold act rD enter zO Ad pick fill D6 count;simp only[h,ne_eq,rZ,uY];repeat' apply jkG
 all_goals simp
def Ol(_:Value)(_:World):Prop:=True
def Ae(c:Int)(o:List Int)(v:Value)(w:World):Prop:=c=0->Sl iW w w v o
theorem Ae.below{c:Int}{o:List Int}{v:Value}{w w':World}(h:Ae c o v w)(hb:Below w w w'):Ae c o v w':=λhc=>(h hc).grow hb
theorem jnN{w w2:World}{e:Ending}(h:Bg none w e w2):∃v,e=.returned v/\(∃u,v=.tuple #[u,zI,.bool false]/\Ol u w2)/\Below w w w2:=by
 obtain⟨hb,⟨_,u,rfl⟩|⟨o,c,u,he,_⟩⟩:=h
 ·exact⟨_,rfl,⟨u,rfl,trivial⟩,hb⟩
 ·cases he
theorem jnM{o:List Int}{c:Int}{w w2:World}{e:Ending}(h:Bg (some (o,c)) w e w2):∃v,e=.returned v/\(∃u,v=.tuple #[u,c,.bool true]/\Ae c o u w2)/\Below w w w2:=by
 obtain⟨hb,⟨he,_⟩|⟨o',c',u,he,rfl,hs⟩⟩:=h
 ·cases he
 ·injection he with he
  injection he with h1 h2
  subst h1 h2;exact⟨_,rfl,⟨u,rfl,hs⟩,hb⟩
theorem TT{p:dG}{s:aI}{op:List Nat}{l o:List Int}{c:Int}(h:nD p s op l=some (o,c)):c=0\/c=4:=by
 unfold nD at h
 repeat' split at h
 all_goals first|(cases h;done)|(injection h with h;injection h with _ h;omega)
theorem Uo{α:Type}{F:α->List Int}{l:List α}(d:α)(h:∀k,k<l.length->∀n∈F (l.getD k d),0<=n/\n<=9223372036854775807):∀n∈l.flatMap F,0<=n/\n<=9223372036854775807:=λn hn=>by
 obtain⟨x,hx,hn⟩:=oL.1 hn;obtain⟨k,hk,rfl⟩:=bg hx;exact h k hk n (by simpa[hk]using hn)
theorem TS{p:dG}{s:aI}{op:List Nat}{l o:List Int}{c:Int}(hsz:aO p s=0)(h:nD p s op l=some (o,c)):c=0->(∀n∈o,0<=n/\n<=9223372036854775807)/\o.length<=100000:=by
 intro hc;subst hc;have hs:=(gB.1 hsz).1;obtain⟨_,c6,_,c3⟩:=hs.counts;unfold nD at h
 split at h
 ·split at h
  ·rename_i h0
   injection h with h
   injection h with h _
   subst h;have hb:(l.getD 0 0).toNat<p.dP.length:=by omega
   have hr:=hs.rowLen hb;refine⟨λn hn=>?_,by omega⟩
   obtain⟨g,hg,rfl⟩:=bg hn;have:=hs.cell hb (g:=g) (by omega)
   have e:cell s.on (l.getD 0 0).toNat g=(fO s.on (l.getD 0 0).toNat)[g]:=by
    show(fO s.on _).getD g 0=_;rw[fK,bQ hg,ku]
   omega
  ·cases h
 ·split at h
  ·split at h
   ·rename_i h0
    injection h with h
    injection h with h _
    subst h;have ho:(l.getD 0 0).toNat<s.ak.length:=by omega
    have hk:=hs.eH ho;refine⟨λn hn=>?_,?_⟩
    ·rcases fF.1 hn with rfl|hn
     ·omega
     ·refine Uo (F:=λx:Line=>[x.jk,x.qI,x.eU]) IU (λk hk n hn=>?_) n hn
      have hl:=(hs.aK ho hk);have e:(s.aC (l.getD 0 0).toNat).aH.getD k IU=s.aK (l.getD 0 0).toNat k:=rfl;rw[e]at hn
      simp only[fF,mg,lC]at hn
      rcases hn with rfl|rfl|rfl<;>omega
    ·rw[bP,A8 (n:=3) _ (λ_=>rfl)]
     have:=(hs.rE ho).2;omega
   ·cases h
  ·split at h
   ·injection h with h
    injection h with h _
    subst h;refine⟨Uo Pn λk hk n hn=>?_,by rw[A8 (n:=4) _ (λ_=>rfl)];have:=qH hs.aA;omega⟩
    have hh:=hs.yL hk;have hfn:(s.aA.getD k Pn)=hold s.aA k:=rfl;rw[hfn]at hn
    simp only[fF,mg,lC]at hn
    have h4:=hs.nX;have h3:=(hs.rE (o:=(hold s.aA k).aC.toNat) (by omega)).2
    rcases hn with rfl|rfl|rfl|rfl<;>omega
   ·split at h
    ·injection h with h
     injection h with h _
     subst h;refine⟨Uo Kv λk hk n hn=>?_,by rw[A8 (n:=4) _ (λ_=>rfl)];have:=hs.uf;omega⟩
     have hh:=hs.bZ hk;have hfn:(s.aF.getD k Kv)=bZ s.aF k:=rfl;rw[hfn]at hn
     simp only[fF,mg,lC]at hn
     rcases hn with rfl|rfl|rfl|rfl<;>omega
    ·split at h
     ·injection h with h
      injection h with h _
      subst h;have:=Ns s s.ak.length;have h4:=hs.nX;refine⟨λn hn=>?_,by simp⟩
      rw[ig]at hn
      subst hn;unfold G8;omega
     ·cases h
def jhJ(p:dG)(s:aI)(t:List Nat)(aT:Nat)(w:World)(e:Ending)(w':World):Prop:=∃V':SV,e=.returned (.tuple #[V'.val,.string (eY (EJ p s t).2)])/\zn aT V' p (EJ p s t).1 w'/\Below w w w'
theorem jnU(w:World)(v:Value)(V:SV)(aT:Nat)(p:dG)(s:aI)(t:List Nat)(hp:kK w w v p)(hm:zn aT V p s w)(hle:aT<=w.heap.size)(hsz:aO p s=0)(hb:∀n∈t,n<256)(hl:t.length<=4096):
  Calls prog 18 #[v,V.val,.string (eY t)] w (jhJ p s t aT w):=by
 obtain⟨Ab,cb,As,cs,rfl,hP',hBn,hSz,hlb,hls⟩:=o9 hp;obtain⟨op,r,hps⟩:∃op r,splitB 32 t=op::r:=⟨_,_,KT.symm⟩;have xK:=ah (show EJ p s t=rM p s op r by unfold EJ;rw[hps];rfl)
 have hmem:∀x∈op::r,(∀n∈x,n<256)/\x.length<=4096:=λx hx=>by
  obtain⟨h1,h2⟩:=PV 32 t x (by rw[hps];exact hx)
  exact⟨λn hn=>hb n (h1 n hn),by omega⟩
 have hmem':=ah hmem;have hlr:r.length<=5000:=by have:=JR 32 t;rw[hps]at this;simp only[bP]at this;omega
 have hbt:=ah hb;have hone:=hm.made.one;have hm':=ah hm;have jon:=ah hps;have hsz':=ah hsz;clear hm hps hb hsz hp hmem;show Calls prog 18 #[_,.agg #[V.on,V.ak,V.aA,V.aF,V.jf,V.O,V.dB],_] w _;go_enter func18,ntmps18
 go_wp2_with fail;obtain⟨W0,hW0,hb0,hpl,hbx,hrx,hs0⟩:=jfB w p V Ab cb As cs;rw[hW0];have hpl':=ah hpl;have EP:=ah hbx;have jg6:=ah hrx;clear hW0 hpl hbx hrx;refine(jnS W0 t hbt.O hl).mono ?_
 rintro e W1 ⟨v1,rfl,hO1,hb1⟩;rw[jon.O]at hO1
 obtain⟨g,cq,rfl,hg,hgl⟩:=hO1.some_ (by simp)
 have hcap1:r.length+1<=cq:=Own.cap hO1;have hS1:=ah (show Sl cStr W1 W1 (.slice (some g) (r.length+1) cq) (op::r)from hO1.sl (by simp;omega))
 have h01:=fD hb0 hb1;clear hO1;simp only[bP];go_wp2_with fail;all_goals
  have hw0:W1.cell? g=some (.string (eY op)):=(hS1.O.at_.str (i:=0) (by simp)).2.2
  refine(jeh W1 _ r (jfP hS1.O (by first|exact .inl rfl|(right;omega)) hlr) (λx hx=>hmem'.O x (aY _ hx)) hlr).mono ?_
  rintro e W2 ⟨vn,rfl,hON,hb2⟩;have h12:=fD hb1 hb2;have h02:=fD hb0 h12;have c0:=(hb2.cell (p:=g) hgl).trans hw0;cases hn:zi r with
  |none=>
   have hres:rM p s op r=(s,refused 1):=by unfold rM;rw[hn]
   clear c0;go_wp2_with fail;refine IX 3 [rV 28 (.agg #[V.on,V.ak,V.aA,V.aF,V.jf,V.O,V.dB]),rV 29 (.func (.func 45) #[] #[]),λgq w'=>(λv w'=>v=.string (eY (refused 1))) (gq 30) w'] ?_ (λf W8 hb8 hR=>?_)
   simp only[aG,aS];refine bT.v (λgq w' hb ho hd=>?_) ?_
   ·have e4:=ho 4 rfl;obtain⟨y0,y1,y2,y3,y4,y5,y6⟩:=(EP.O.below (jZ h12 (hb.mono (jw h12))) (by omega)).cells
    go_simp
   refine bT.v (λgq w' hb ho hd=>?_) ?_
   ·have e9:=ho 9 rfl;go_simp
   refine bT.cons (sN.one (d:=30) (p:=(λv w'=>v=.string (eY (refused 1)))) rfl rfl (λv w1 w2 h hb=>h) (λgq w' hb ho hd=>?_)) ?_
   ·have e29:_=_:=hd.d 1;unfold iq;go_simp
    refine(Sv w' 1 (by omega)).mono ?_
    rintro e w2 ⟨rfl,hb2⟩;exact⟨_,rfl,rfl,hb2⟩
   exact bT.nil;simp only[Jh]at hR
   simp only[kP,qJ,aG,aS,bU,dH,bY,cO,dA,dL,aQ,bG,bH,hR];clear hR;have NJ:=jZ h12 (hb8.mono (jw h12));have Yp:=jg6.O.below NJ (by omega)
   have BG:=fD hb0 NJ;have hM8:=hm'.O.below BG;refine dU (.tmp 6) (.tmp 28) dV V rfl Yp rfl hone (λw9 dS jg=>?_)
   have hM9:=hM8.kept jg Yp;have dw:=BG.grown jg BG.size (λk hk=>by injection hk with hk;omega)
   go_wp2_with fail;exact jl results18 dS rfl rfl ⟨V,by rw[xK.O,hres];rfl,by rw[xK.O,hres];exact hM9,dw⟩
  |some l=>
   rw[hn]at hON
   simp only[ku,vK]at hON ⊢
   have hln:l.length<=5000:=by have:=P7 hn;omega
   obtain⟨A2,c2,rfl⟩:=hON.isSlice;have hSn:=ah (hON.sl (by omega))
   clear hON;go_wp2_with fail;refine(jnV W2 op _ l (hmem'.O op (bW ..)).1 hSn.O (by omega)).mono ?_
   rintro e W3 ⟨vd,rfl,hD,hb3⟩;have h13:=fD h12 hb3;have h03:=fD hb0 h13;obtain⟨Al,cl,rfl,hDV,_,_⟩:=SC hD;clear hD c0;cases ha:xq op l with
   |some x=>
    simp only[ha,ku,vK]at hDV ⊢
    have Og:=hpl'.O.below h13 (by omega)
    have y0:=Og.cell (j:=0) rfl;have y1:=Og.cell (j:=1) rfl;obtain⟨b0,b1,b2,b3,b4,b5,b6⟩:=(EP.O.below h13 (by omega)).cells
    have lp3:=Og.lt;have lb3:=(EP.O.below h13 (by omega)).lt
    have VN:=(aj W3 W3).alloc (ay _) (.cells #[x.eH,x.a,x.b,x.c,x.n,.slice Al x.aH.length cl] 81);go_wp2_with fail;generalize W3.alloc (.cells #[x.eH,x.a,x.b,x.c,x.n,.slice Al x.aH.length cl] 81)=Wa at VN ⊢
    clear Og y0 y1 b0 b1 b2 b3 b4 b5 b6 lp3 lb3;have h1a:=fD h13 VN;have Qu:=fD hb0 h1a;have hma:=(hm'.O.below Qu).made;have kDo:=jp3 Wa (.agg (xu p Ab cb As cs)) (.agg #[V.on,V.ak,V.aA,V.aF,V.jf,V.O,V.dB]) (.agg #[x.eH,x.a,x.b,x.c,x.n,.slice Al x.aH.length cl]) p s x (hP'.O _ Qu) hma.view (hDV.O _ VN) hma.cap;have hcode:=Ym (x:=x) hsz'.O;obtain⟨s1,c1,hact⟩:∃s1 c1,act p s x=(s1,c1):=⟨_,_,rfl⟩;rw[hact]at kDo hcode
    obtain⟨n1,hn1⟩:∃n1:Nat,c1=(n1:Int):=⟨c1.toNat,by omega⟩
    subst hn1;have hw:=ah (show rM p s op r=if(n1:Int)=0 then(s1,wOk)else(s,refused n1)by
     unfold rM;rw[hn];simp only[ha,hact])
    have hs1:=ah (show n1=0->small s1=true from λh0=>Px (by have:=(Yl (p:=p) (s:=s) (x:=x) (by rw[hact,h0];rfl)).2.check;rwa [hact]at this))
    clear hact hma hDV VN hn ha;refine kDo.mono ?_
    rintro e W4 ⟨V2,rfl,QG,hb4⟩;have jnd:=QG.one;have jcU:=ah QG;clear kDo QG;go_wp2_with (refine dU (.tmp 14) (.tmp 45) dV V2 rfl (Dj W4) rfl jnd (λw5 OV hg5=>?_);refine bD ?_)
    unfold Hid;have jo4:=xg hg5;have h15:=(fD h1a hb4).trans (jo4.mono (aU h1a.size hb4.size));have ZP:=ah (show n1=0->zn aT V2 p s1 w5 from λh0=>.inl ⟨(jcU.O.below jo4).from_ (by have:=Qu.size;omega),hs1.O h0⟩)
    clear hg5 jo4 h1a hb4 jcU hs1;by_cases hc:n1=0
    ·subst hc;have hres:rM p s op r=(s1,wOk):=hw.O;obtain⟨q0,q1,q2,q3,q4,q5,q6⟩:=OV.cells;have hr5:=jg6.O.below h15 (by omega)
     have h05:=fD hb0 h15;go_wp2_with (refine dU (.tmp 6) (.tmp 53) dV V2 rfl hr5 rfl jnd (λw9 dS jg=>?_);refine bD ?_)
     unfold Hid;have hM9:=(ZP.O (by simp)).kept jg hr5
     have dw:=h05.grown jg h05.size (λk hk=>by injection hk with hk;omega)
     clear q0 q1 q2 q3 q4 q5 q6;obtain⟨p0,p1,p2,p3,p4,p5,p6⟩:=jB.cells dS;go_wp2_with fail;exact bV (v:=.tuple #[V2.val,.string (eY wOk)]) (by simp[results,results18,go_sem,SV.val,p0,p1,p2,p3,p4,p5,p6,eY,wOk]) rfl ⟨V2,by rw[xK.O,hres],by rw[xK.O,hres];exact hM9,dw⟩
    ·have hres:rM p s op r=(s,refused n1):=by rw[hw.O,au (by omega)]
     have hc':(n1:Int)≠0:=by omega
     have hcb:((n1:Int)!=0)=true:=by simpa using hc'
     clear hw;go_wp2_with fail;refine IX 4 [rV 49 (.agg #[V.on,V.ak,V.aA,V.aF,V.jf,V.O,V.dB]),rV 50 (.func (.func 45) #[] #[]),rV 51 (n1),λgq w'=>(λv w'=>v=.string (eY (refused n1))) (gq 52) w'] ?_ (λf W8 hb8 hR=>?_)
     simp only[aG,aS];refine bT.v (λgq w' hb ho hd=>?_) ?_
     ·have e4:=ho 4 rfl;obtain⟨y0,y1,y2,y3,y4,y5,y6⟩:=(EP.O.below (jZ h15 (hb.mono (jw h15))) (by omega)).cells
      go_simp
     refine bT.v (λgq w' hb ho hd=>?_) ?_
     ·have e9:=ho 9 rfl;go_simp
     refine bT.v (λgq w' hb ho hd=>?_) ?_
     ·have e15:=ho 15 rfl;go_simp
     refine bT.cons (sN.one (d:=52) (p:=(λv w'=>v=.string (eY (refused n1)))) rfl rfl (λv w1 w2 h hb=>h) (λgq w' hb ho hd=>?_)) ?_
     ·have e50:_=_:=hd.d 1;have e51:_=_:=hd.d 2;unfold iq;go_simp
      refine(Sv w' n1 (by omega)).mono ?_
      rintro e w2 ⟨rfl,hb2⟩;exact⟨_,rfl,rfl,hb2⟩
     exact bT.nil;simp only[Jh]at hR
     simp only[kP,qJ,aG,aS,bU,dH,bY,cO,dA,dL,aQ,bG,bH,hR];clear hR;have NJ:=jZ h15 (hb8.mono (jw h15));have Yp:=jg6.O.below NJ (by omega)
     have BG:=fD hb0 NJ;have hM8:=hm'.O.below BG;refine dU (.tmp 6) (.tmp 49) dV V rfl Yp rfl hone (λw9 dS jg=>?_)
     have hM9:=hM8.kept jg Yp;have dw:=BG.grown jg BG.size (λk hk=>by injection hk with hk;omega)
     go_wp2_with fail;exact jl results18 dS rfl rfl ⟨V,by rw[xK.O,hres];rfl,by rw[xK.O,hres];exact hM9,dw⟩
   |none=>
    simp only[ha,Option.getD_none,zq]at hDV ⊢
    go_wp2_with fail;clear hDV;have VN:=(aj W3 W3).alloc (ay _) (.cells #[zI,zI,zI,zI,zI,.slice Al 0 cl] 81);generalize W3.alloc (.cells #[zI,zI,zI,zI,zI,.slice Al 0 cl] 81)=Wa at VN ⊢
    have h1a:=fD h13 VN;have Qu:=fD hb0 h1a;have hga:g<Wa.heap.size:=by have:=hb2.size;have:=hb3.size;have:=VN.size;omega
    have hwa:=(((fD hb2 hb3).trans (VN.mono (aU hb2.size hb3.size))).cell (p:=g) hgl).trans hw0;have hSa:=ah (hSn.O.up (fD hb3 VN) (aU hb3.size VN.size));have hops:=ah (hmem'.O op (bW ..)).1;cases hs:nD p s op l with
    |none=>
     have hres:rM p s op r=(s,refused 1):=by
      unfold rM;rw[hn];simp only[ha,hs]
     clear hn ha VN;refine IX 14 [rV 55 (.agg (xu p Ab cb As cs)),rV 56 (.agg #[V.on,V.ak,V.aA,V.aF,V.jf,V.O,V.dB]),rV 57 (.slice (some g) (r.length+1) cq),rV 58 (.pointer (some g)),rV 59 (.string (eY op)),rV 60 (.slice A2 l.length c2),λgq w'=>(λv w'=>∃u,v=.tuple #[u,zI,.bool false]/\Ol u w') (gq 61) w',λgq w'=>(λv w'=>∃u,v=.tuple #[u,zI,.bool false]/\Ol u w') (gq 54) w',λgq w'=>(λv w'=>Ol v w') (gq 62) w',rV 63 (zI),rV 64 (.bool false),λgq w'=>(λv w'=>Ol v w') (gq 16) w',rV 17 (zI),rV 11 (.bool false)] ?_ (λf W8 hb8 hR=>?_)
     simp only[aG,aS];refine bT.v (λgq w' hb ho hd=>?_) ?_
     ·have e3:=ho 3 rfl;have Og:=hpl'.O.below (jZ h1a (hb.mono (jw h1a))) (by omega)
      have y0:=Og.cell (j:=0) rfl;have y1:=Og.cell (j:=1) rfl;go_simp
     refine bT.v (λgq w' hb ho hd=>?_) ?_
     ·have e4:=ho 4 rfl;obtain⟨y0,y1,y2,y3,y4,y5,y6⟩:=(EP.O.below (jZ h1a (hb.mono (jw h1a))) (by omega)).cells
      go_simp
     refine bT.v (λgq w' hb ho hd=>?_) ?_
     ·have e8:=ho 8 rfl;go_simp
     refine bT.v (λgq w' hb ho hd=>?_) ?_
     ·have e57:_=_:=hd.d 2;go_simp
     refine bT.v (λgq w' hb ho hd=>?_) ?_
     ·have e58:_=_:=hd.d 3;have y0:=(hb.cell (p:=g) hga).trans hwa;go_simp
     refine bT.v (λgq w' hb ho hd=>?_) ?_
     ·have e10:=ho 10 rfl;go_simp
     refine bT.cons (sN.one (d:=61) (p:=(λv w'=>∃u,v=.tuple #[u,zI,.bool false]/\Ol u w')) rfl rfl (λv w1 w2 h hb=>let ⟨u,h1,h2⟩:=h;⟨u,h1,trivial⟩) (λgq w' hb ho hd=>?_)) ?_
     ·have e55:_=_:=hd.d 0;have e56:_=_:=hd.d 1;have e59:_=_:=hd.d 4;have e60:_=_:=hd.d 5;unfold iq;go_simp
      have h0b:=fD Qu hb;refine(jir w' (.agg (xu p Ab cb As cs)) (.agg #[V.on,V.ak,V.aA,V.aF,V.jf,V.O,V.dB]) (.slice A2 l.length c2) p s op l (hP'.O _ h0b) ((hm'.O.below h0b).made).view hops.O (hSa.O.up hb hb.size) hsz'.O).mono ?_
      intro e w2 hsh;rw[hs]at hsh
      exact jnN hsh
     refine bT.cons (sN.one (d:=54) (p:=(λv w'=>∃u,v=.tuple #[u,zI,.bool false]/\Ol u w')) rfl rfl (λv w1 w2 h hb=>let ⟨u,h1,h2⟩:=h;⟨u,h1,trivial⟩) (λgq w' hb ho hd=>?_)) ?_
     ·have e61:∃u,(gq 61)=.tuple #[u,zI,.bool false]/\Ol u w':=hd.d 6;obtain⟨u,h1,h2⟩:=e61;unfold iq;go_simp
      exact aj _ _
     refine bT.cons (sN.one (d:=62) (p:=(λv w'=>Ol v w')) rfl rfl (λv w1 w2 h hb=>trivial) (λgq w' hb ho hd=>?_)) ?_
     ·have e54:∃u,(gq 54)=.tuple #[u,zI,.bool false]/\Ol u w':=hd.d 7;obtain⟨u,h1,h2⟩:=e54;unfold iq;go_simp
      exact aj _ _
     refine bT.v (λgq w' hb ho hd=>?_) ?_
     ·have e54:∃u,(gq 54)=.tuple #[u,zI,.bool false]/\Ol u w':=hd.d 7;obtain⟨u,h1,h2⟩:=e54;go_simp
     refine bT.v (λgq w' hb ho hd=>?_) ?_
     ·have e54:∃u,(gq 54)=.tuple #[u,zI,.bool false]/\Ol u w':=hd.d 7;obtain⟨u,h1,h2⟩:=e54;go_simp
     refine bT.cons (sN.one (d:=16) (p:=(λv w'=>Ol v w')) rfl rfl (λv w1 w2 h hb=>trivial) (λgq w' hb ho hd=>?_)) ?_
     ·have e62:Ol (gq 62) w':=hd.d 8;unfold iq;go_simp
      exact aj _ _
     refine bT.v (λgq w' hb ho hd=>?_) ?_
     ·have e63:_=_:=hd.d 9;go_simp
     refine bT.v (λgq w' hb ho hd=>?_) ?_
     ·have e64:_=_:=hd.d 10;go_simp
     exact bT.nil;obtain⟨r55,r56,r57,r58,r59,r60,r61,r54,r62,r63,r64,r16,WM,r11,_⟩:=hR;replace r61:∃u,(f 61)=.tuple #[u,zI,.bool false]/\Ol u W8:=r61;replace r54:∃u,(f 54)=.tuple #[u,zI,.bool false]/\Ol u W8:=r54;replace r62:Ol (f 62) W8:=r62;replace r16:Ol (f 16) W8:=r16;simp only[kP,qJ,aG,aS,bU,dH,bY,cO,dA,dL,aQ,bG,bH,r55,r56,r57,r58,r59,r60,r63,r64,WM,r11];clear r55 r56 r57 r58 r59 r60 r63 r64 WM r11;clear r62 r16;have h18:=fD h1a hb8;clear hb8;go_wp2_with fail;refine IX 4 [rV 69 (.agg #[V.on,V.ak,V.aA,V.aF,V.jf,V.O,V.dB]),rV 70 (.func (.func 45) #[] #[]),rV 71 (.int .i64 1),λgq w'=>(λv w'=>v=.string (eY (refused 1))) (gq 72) w'] ?_ (λf W8 hb8 hR=>?_)
     simp only[aG,aS];refine bT.v (λgq w' hb ho hd=>?_) ?_
     ·have e4:=ho 4 rfl;obtain⟨y0,y1,y2,y3,y4,y5,y6⟩:=(EP.O.below (jZ h18 (hb.mono (jw h18))) (by omega)).cells
      go_simp
     refine bT.v (λgq w' hb ho hd=>?_) ?_
     ·have e9:=ho 9 rfl;go_simp
     refine bT.v (λgq w' hb ho hd=>?_) ?_
     ·have e17:=ho 17 rfl;go_simp
     refine bT.cons (sN.one (d:=72) (p:=(λv w'=>v=.string (eY (refused 1)))) rfl rfl (λv w1 w2 h hb=>h) (λgq w' hb ho hd=>?_)) ?_
     ·have e70:_=_:=hd.d 1;have e71:_=_:=hd.d 2;unfold iq;go_simp
      refine(Sv w' 1 (by omega)).mono ?_
      rintro e w2 ⟨rfl,hb2⟩;exact⟨_,rfl,rfl,hb2⟩
     exact bT.nil;simp only[Jh]at hR
     simp only[kP,qJ,aG,aS,bU,dH,bY,cO,dA,dL,aQ,bG,bH,hR];clear hR;have NJ:=jZ h18 (hb8.mono (jw h18));have Yp:=jg6.O.below NJ (by omega)
     have BG:=fD hb0 NJ;have hM8:=hm'.O.below BG;refine dU (.tmp 6) (.tmp 69) dV V rfl Yp rfl hone (λw9 dS jg=>?_)
     have hM9:=hM8.kept jg Yp;have dw:=BG.grown jg BG.size (λk hk=>by injection hk with hk;omega)
     go_wp2_with fail;exact jl results18 dS rfl rfl ⟨V,by rw[xK.O,hres];rfl,by rw[xK.O,hres];exact hM9,dw⟩
    |some oc=>
     obtain⟨o,c0⟩:=oc;have hcs:=TT hs;have hw:=ah (show rM p s op r=if c0=0 then(s,lJ o)else(s,refused c0)by
      unfold rM;rw[hn];simp only[ha,hs])
     have jjG:=ah (TS hsz'.O hs);clear hn ha VN;refine IX 14 [rV 55 (.agg (xu p Ab cb As cs)),rV 56 (.agg #[V.on,V.ak,V.aA,V.aF,V.jf,V.O,V.dB]),rV 57 (.slice (some g) (r.length+1) cq),rV 58 (.pointer (some g)),rV 59 (.string (eY op)),rV 60 (.slice A2 l.length c2),λgq w'=>(λv w'=>∃u,v=.tuple #[u,c0,.bool true]/\Ae c0 o u w') (gq 61) w',λgq w'=>(λv w'=>∃u,v=.tuple #[u,c0,.bool true]/\Ae c0 o u w') (gq 54) w',λgq w'=>(λv w'=>Ae c0 o v w') (gq 62) w',rV 63 (c0),rV 64 (.bool true),λgq w'=>(λv w'=>Ae c0 o v w') (gq 16) w',rV 17 (c0),rV 11 (.bool true)] ?_ (λf W8 hb8 hR=>?_)
     simp only[aG,aS];refine bT.v (λgq w' hb ho hd=>?_) ?_
     ·have e3:=ho 3 rfl;have Og:=hpl'.O.below (jZ h1a (hb.mono (jw h1a))) (by omega)
      have y0:=Og.cell (j:=0) rfl;have y1:=Og.cell (j:=1) rfl;go_simp
     refine bT.v (λgq w' hb ho hd=>?_) ?_
     ·have e4:=ho 4 rfl;obtain⟨y0,y1,y2,y3,y4,y5,y6⟩:=(EP.O.below (jZ h1a (hb.mono (jw h1a))) (by omega)).cells
      go_simp
     refine bT.v (λgq w' hb ho hd=>?_) ?_
     ·have e8:=ho 8 rfl;go_simp
     refine bT.v (λgq w' hb ho hd=>?_) ?_
     ·have e57:_=_:=hd.d 2;go_simp
     refine bT.v (λgq w' hb ho hd=>?_) ?_
     ·have e58:_=_:=hd.d 3;have y0:=(hb.cell (p:=g) hga).trans hwa;go_simp
     refine bT.v (λgq w' hb ho hd=>?_) ?_
     ·have e10:=ho 10 rfl;go_simp
     refine bT.cons (sN.one (d:=61) (p:=(λv w'=>∃u,v=.tuple #[u,c0,.bool true]/\Ae c0 o u w')) rfl rfl (λv w1 w2 h hb=>let ⟨u,h1,h2⟩:=h;⟨u,h1,h2.below hb⟩) (λgq w' hb ho hd=>?_)) ?_
     ·have e55:_=_:=hd.d 0;have e56:_=_:=hd.d 1;have e59:_=_:=hd.d 4;have e60:_=_:=hd.d 5;unfold iq;go_simp
      have h0b:=fD Qu hb;refine(jir w' (.agg (xu p Ab cb As cs)) (.agg #[V.on,V.ak,V.aA,V.aF,V.jf,V.O,V.dB]) (.slice A2 l.length c2) p s op l (hP'.O _ h0b) ((hm'.O.below h0b).made).view hops.O (hSa.O.up hb hb.size) hsz'.O).mono ?_
      intro e w2 hsh;rw[hs]at hsh
      exact jnM hsh
     refine bT.cons (sN.one (d:=54) (p:=(λv w'=>∃u,v=.tuple #[u,c0,.bool true]/\Ae c0 o u w')) rfl rfl (λv w1 w2 h hb=>let ⟨u,h1,h2⟩:=h;⟨u,h1,h2.below hb⟩) (λgq w' hb ho hd=>?_)) ?_
     ·have e61:∃u,(gq 61)=.tuple #[u,c0,.bool true]/\Ae c0 o u w':=hd.d 6;obtain⟨u,h1,h2⟩:=e61;unfold iq;go_simp
      exact aj _ _
     refine bT.cons (sN.one (d:=62) (p:=(λv w'=>Ae c0 o v w')) rfl rfl (λv w1 w2 h hb=>h.below hb) (λgq w' hb ho hd=>?_)) ?_
     ·have e54:∃u,(gq 54)=.tuple #[u,c0,.bool true]/\Ae c0 o u w':=hd.d 7;obtain⟨u,h1,h2⟩:=e54;unfold iq;go_simp
      exact aj _ _
     refine bT.v (λgq w' hb ho hd=>?_) ?_
     ·have e54:∃u,(gq 54)=.tuple #[u,c0,.bool true]/\Ae c0 o u w':=hd.d 7;obtain⟨u,h1,h2⟩:=e54;go_simp
     refine bT.v (λgq w' hb ho hd=>?_) ?_
     ·have e54:∃u,(gq 54)=.tuple #[u,c0,.bool true]/\Ae c0 o u w':=hd.d 7;obtain⟨u,h1,h2⟩:=e54;go_simp
     refine bT.cons (sN.one (d:=16) (p:=(λv w'=>Ae c0 o v w')) rfl rfl (λv w1 w2 h hb=>h.below hb) (λgq w' hb ho hd=>?_)) ?_
     ·have e62:Ae c0 o (gq 62) w':=hd.d 8;unfold iq;go_simp
      exact aj _ _
     refine bT.v (λgq w' hb ho hd=>?_) ?_
     ·have e63:_=_:=hd.d 9;go_simp
     refine bT.v (λgq w' hb ho hd=>?_) ?_
     ·have e64:_=_:=hd.d 10;go_simp
     exact bT.nil;obtain⟨r55,r56,r57,r58,r59,r60,r61,r54,r62,r63,r64,r16,WM,r11,_⟩:=hR;replace r61:∃u,(f 61)=.tuple #[u,c0,.bool true]/\Ae c0 o u W8:=r61;replace r54:∃u,(f 54)=.tuple #[u,c0,.bool true]/\Ae c0 o u W8:=r54;replace r62:Ae c0 o (f 62) W8:=r62;replace r16:Ae c0 o (f 16) W8:=r16;simp only[kP,qJ,aG,aS,bU,dH,bY,cO,dA,dL,aQ,bG,bH,r55,r56,r57,r58,r59,r60,r63,r64,WM,r11];clear r55 r56 r57 r58 r59 r60 r63 r64 WM r11;have h18:=fD h1a hb8;have jlq:=ah r16;clear r62 r16 hb8 hs;generalize f 16=v16 at jlq ⊢
     rcases hcs with rfl|rfl
     ·have hres:rM p s op r=(s,lJ o):=hw.O;obtain⟨hf1,hf2⟩:=jjG.O rfl;have hSo:=ah (jlq.O rfl);clear jlq jjG hw;go_wp2_with fail;refine IX 3 [rV 73 (.agg #[V.on,V.ak,V.aA,V.aF,V.jf,V.O,V.dB]),rV 74 (v16),λgq w'=>(λv w'=>v=.string (eY (lJ o))) (gq 75) w'] ?_ (λf2 W9 AA hR=>?_)
      simp only[aG,aS];refine bT.v (λgq w' hb ho hd=>?_) ?_
      ·have e4:=ho 4 rfl;obtain⟨y0,y1,y2,y3,y4,y5,y6⟩:=(EP.O.below (jZ h18 (hb.mono (jw h18))) (by omega)).cells
       go_simp
      refine bT.v (λgq w' hb ho hd=>?_) ?_
      ·have e16:=ho 16 rfl;go_simp
      refine bT.cons (sN.one (d:=75) (p:=(λv w'=>v=.string (eY (lJ o)))) rfl rfl (λv w1 w2 h hb=>h) (λgq w' hb ho hd=>?_)) ?_
      ·have e74:_=_:=hd.d 1;unfold iq;go_simp
       refine(jlg w' v16 o (hSo.O.up hb hb.size) hf1 hf2).mono ?_
       rintro e w2 ⟨rfl,hb2⟩;exact⟨_,rfl,rfl,hb2⟩
      exact bT.nil;simp only[Jh]at hR
      simp only[kP,qJ,aG,aS,bU,dH,bY,cO,dA,dL,aQ,bG,bH,hR];clear hR;have hb8:=AA;have NJ:=jZ h18 (hb8.mono (jw h18));have Yp:=jg6.O.below NJ (by omega)
      have BG:=fD hb0 NJ;have hM8:=hm'.O.below BG;refine dU (.tmp 6) (.tmp 73) dV V rfl Yp rfl hone (λw9 dS jg=>?_)
      have hM9:=hM8.kept jg Yp;have dw:=BG.grown jg BG.size (λk hk=>by injection hk with hk;omega)
      go_wp2_with fail;exact jl results18 dS rfl rfl ⟨V,by rw[xK.O,hres];rfl,by rw[xK.O,hres];exact hM9,dw⟩
     ·have hres:rM p s op r=(s,refused 4):=hw.O;clear jlq jjG hw;go_wp2_with fail;refine IX 4 [rV 69 (.agg #[V.on,V.ak,V.aA,V.aF,V.jf,V.O,V.dB]),rV 70 (.func (.func 45) #[] #[]),rV 71 (.int .i64 4),λgq w'=>(λv w'=>v=.string (eY (refused 4))) (gq 72) w'] ?_ (λf W8 hb8 hR=>?_)
      simp only[aG,aS];refine bT.v (λgq w' hb ho hd=>?_) ?_
      ·have e4:=ho 4 rfl;obtain⟨y0,y1,y2,y3,y4,y5,y6⟩:=(EP.O.below (jZ h18 (hb.mono (jw h18))) (by omega)).cells
       go_simp
      refine bT.v (λgq w' hb ho hd=>?_) ?_
      ·have e9:=ho 9 rfl;go_simp
      refine bT.v (λgq w' hb ho hd=>?_) ?_
      ·have e17:=ho 17 rfl;go_simp
      refine bT.cons (sN.one (d:=72) (p:=(λv w'=>v=.string (eY (refused 4)))) rfl rfl (λv w1 w2 h hb=>h) (λgq w' hb ho hd=>?_)) ?_
      ·have e70:_=_:=hd.d 1;have e71:_=_:=hd.d 2;unfold iq;go_simp
       refine(Sv w' 4 (by omega)).mono ?_
       rintro e w2 ⟨rfl,hb2⟩;exact⟨_,rfl,rfl,hb2⟩
      exact bT.nil;simp only[Jh]at hR
      simp only[kP,qJ,aG,aS,bU,dH,bY,cO,dA,dL,aQ,bG,bH,hR];clear hR;have NJ:=jZ h18 (hb8.mono (jw h18));have Yp:=jg6.O.below NJ (by omega)
      have BG:=fD hb0 NJ;have hM8:=hm'.O.below BG;refine dU (.tmp 6) (.tmp 69) dV V rfl Yp rfl hone (λw9 dS jg=>?_)
      have hM9:=hM8.kept jg Yp;have dw:=BG.grown jg BG.size (λk hk=>by injection hk with hk;omega)
      go_wp2_with fail;exact jl results18 dS rfl rfl ⟨V,by rw[xK.O,hres];rfl,by rw[xK.O,hres];exact hM9,dw⟩
end
section
attribute [local go_sem] aV jF iY jI
def stB(p:dG):List (List Nat)->aI->aI
 |[],s=>s
 |t::r,s=>stB p r (EJ p s t).1
theorem Wy(p:dG):∀(l:List (List Nat)) (x:List Nat) (s:aI),stB p (l++[x]) s=(EJ p (stB p l s) x).1
 |[],_,_=>rfl
 |t::r,x,s=>by rw[gG,stB,stB,Wy p r]
theorem OD(p:dG):∀(l:List (List Nat)) (x:List Nat) (s:aI),wG p (l++[x]) s=wG p l s++(EJ p (stB p l s) x).2++[10]
 |[],_,_=>by simp[wG,stB]
 |t::r,x,s=>by
  rw[gG,wG,wG,stB,OD p r];simp
theorem KP{p:dG}{s:aI}(hs:aO p s=0)(op:List Nat)(r:List (List Nat)):aO p (rM p s op r).1=0/\(rM p s op r).2.length<=2200000/\∀n∈(rM p s op r).2,n<256:=by
 have hr:∀e:Int,0<=e->e<=8->(refused e).length<=2200000/\∀n∈refused e,n<256:=λe h0 h8=>by
  have h1:=En 18 e.toNat (by omega)
  refine⟨by simp only[refused,jap,aX,bP,dQ];omega,λn hn=>?_⟩
  simp only[refused,jap,jD,fF,mg,lC]at hn
  rcases hn with hn|hn|hn
  ·omega
  ·omega
  ·have:=Em _ n hn;omega
 unfold rM;split
 ·exact⟨hs,hr 1 (by decide) (by decide)⟩
 ·split
  ·rename_i x _
   have hc:=Ym (x:=x) hs;split
   ·rename_i h0
    exact⟨(Yl h0).2.check,by simp[wOk],by simp[wOk]⟩
   ·exact⟨hs,hr _ hc.1 hc.2⟩
  ·split
   ·exact⟨hs,hr 1 (by decide) (by decide)⟩
   ·rename_i o e he
    have hc:=TT he;split
    ·rename_i h0
     obtain⟨h1,h2⟩:=TS hs he h0;exact⟨hs,by have:=Lc o h1;show(lJ o).length<=_;omega,Xj o⟩
    ·exact⟨hs,hr _ (by omega) (by omega)⟩
theorem TR(p:dG):∀(l:List (List Nat)) (s:aI),aO p s=0->aO p (stB p l s)=0
 |[],_,h=>h
 |t::r,s,h=>TR p r _ (KP h _ _).1
theorem OE(p:dG):∀(l:List (List Nat)) (s:aI),aO p s=0->(wG p l s).length<=l.length*2200001/\∀n∈wG p l s,n<256
 |[],_,_=>by simp[wG]
 |t::r,s,h=>by
  obtain⟨h1,h2,h3⟩:=KP h ((splitB 32 t).headD []) (splitB 32 t).tail;obtain⟨h4,h5⟩:=OE p r _ h1;have e:wG p (t::r) s=(EJ p s t).2++10::wG p r (EJ p s t).1:=rfl;rw[e];refine⟨?_,λn hn=>?_⟩
  ·have h2':(EJ p s t).2.length<=2200000:=h2;have h4':(wG p r (EJ p s t).1).length<=r.length*2200001:=h4;simp only[aX,bP];omega
  ·rcases jD.1 hn with hn|hn
   ·exact h3 n hn
   ·rcases fF.1 hn with rfl|hn
    ·decide
    ·exact h5 n hn
theorem jhZ{c:Nat}{t:List Nat}{k fr:Nat}{ps:List (List Nat)}(h:splitB c (t.take k)=ps++[(t.take k).drop fr])(hf:fr<=k)(hk:k<t.length)(hx:t[k]≠c):splitB c (t.take (k+1))=ps++[(t.take (k+1)).drop fr]:=by
 rw[bM hk,Iw,au hx,h,rJ (by rw[bC];omega)]
 simp
theorem jgF{c:Nat}{t:List Nat}{k fr:Nat}{ps:List (List Nat)}(h:splitB c (t.take k)=ps++[(t.take k).drop fr])(hk:k<t.length)(hx:t[k]=c):splitB c (t.take (k+1))=(ps++[(t.take k).drop fr])++[(t.take (k+1)).drop (k+1)]:=by
 have e:(t.take (k+1)).drop (k+1)=[]:=rQ (by rw[bC];exact Nat.min_le_left _ _)
 rw[e,bM hk,Iw,aB hx,h]
theorem Vw{t:List Nat}{k:Nat}(hk:k<t.length):(t.take (k+1)).count 10=(t.take k).count 10+if t[k]=10 then 1 else 0:=by
 rw[bM hk,List.count_append];by_cases h:t[k]=10<;>simp[h]
theorem jce{p:dG}{t:List Nat}(h0:fU p=0)(h1:¬ 4096<t.length)(h2:¬ 60<t.count 10)(h3:t=[]\/t.getLast?=some 10):CS p t=(wG p (splitB 10 t).dropLast (begin p),0):=by
 unfold CS;rw[au (λh=>h h0),au (by omega),au]
 rintro⟨a,b⟩;rcases h3 with h|h
 ·exact a h
 ·exact b h
def MV(aT:Nat)(p:dG)(s:aI)(mk:SV->Value)(v:Value)(w:World):Prop:=∃V:SV,v=mk V/\zn aT V p s w
theorem jld(w:World)(v:Value)(p:dG)(t:List Nat)(hp:kK w w v p)(hb:∀n∈t,n<256)(hl:t.length<=140737488355328):
  Calls prog 5 #[v,.string (eY t)] w λe w'=>e=.returned (.tuple #[.string (eY (CS p t).1),.int .i64 (CS p t).2])/\Below w w w':=by
 have hsz:=pK t;have hbt:=ah hb;clear hb;obtain⟨Ab,cb,As,cs,rfl,hP',hBn,hSz,hlb,hls⟩:=o9 hp;go_enter func5,ntmps5
 go_wp2_with fail;have hb0:Below w w (w.alloc (kD p Ab cb As cs)):=(aj _ _).alloc (ay _) _;have hpl0:iJ (w.alloc (kD p Ab cb As cs)) w 25 [.slice Ab p.dP.length cb,.slice As p.aW.length cs]:=iJ.new _ _ _;generalize w.alloc (kD p Ab cb As cs)=W0 at hb0 hpl0 ⊢
 have y0:=hpl0.cell (j:=0) rfl;have y1:=hpl0.cell (j:=1) rfl;have lp:=hpl0.lt;have hlt0:=lp;have jcQ:=ah (λW (hW:Below W0 W0 W)=>hpl0.below hW lp)
 clear hpl0;go_wp2_with fail;clear y0 y1 lp;refine(WL W0 _ p (hP'.O _ hb0)).mono ?_
 rintro e W1 ⟨rfl,hb1⟩;have hB1:=fD hb0 hb1;by_cases hz:fU p=0
 ·have hz':=ah hz;rw[hz];clear hz;have jg7:=jcQ.O W1 hb1;have y0:=jg7.cell (j:=0) rfl;have y1:=jg7.cell (j:=1) rfl;have lp:=jg7.lt;go_wp2_with fail;go_loopw[7,8] (λc i wr=>∃k:Nat,k<=t.length/\i=.int .i64 (k:Nat)/\c=.int .i64 ((t.take k).count 10:Nat)/\(t.take k).count 10<=61/\wr=W1) (λ_ i _=>t.length - (RowKit.intOf i).toNat)
  case atStart=>exact⟨0,aN _,rfl,rfl,by simp,rfl⟩
  case round=>
   obtain⟨k,hk,rfl,rfl,jr9,rfl⟩:=hrel;by_cases h1:k<t.length
   ·have h1i:(k:Int)<(t.length:Int):=by omega
    by_cases h60:(t.take k).count 10<=60
    ·have hix:=Qk hbt.O h1 (by omega)
     have hsc:=ah (Vw h1);by_cases hx:t[k]=10
     ·go_wp2_with fail;go_roundw
      case rel=>exact⟨k+1,by omega,by go_num,by rw[hsc.O,aB hx];go_num,by rw[hsc.O,aB hx];omega,trivial⟩
      case measure=>simp[dY];omega
     ·go_wp2_with fail;go_roundw
      case rel=>exact⟨k+1,by omega,by go_num,by rw[hsc.O,au hx];rfl,by rw[hsc.O,au hx];omega,trivial⟩
      case measure=>simp[dY];omega
    ·have hle:(t.take k).count 10<=t.count 10:=by
      conv=>rhs;rw[<- jW k t,List.count_append]
      omega
     have hres:=ah (show CS p t=([],2)by
      unfold CS;rw[au (λh=>h hz'.O),aB (.inr (by omega))])
     by_cases h4:4096<t.length
     ·go_wp2_with fail;exact bV (v:=.tuple #[.string (eY []),.int .i64 2]) (by simp[results,results5,go_sem,eY]) rfl ⟨by rw[hres.O],hB1⟩
     ·go_wp2_with fail;exact bV (v:=.tuple #[.string (eY []),.int .i64 2]) (by simp[results,results5,go_sem,eY]) rfl ⟨by rw[hres.O],hB1⟩
   ·obtain rfl:k=t.length:=by omega
    rw[dR]at jr9 ⊢
    by_cases hbig:4096<t.length\/60<t.count 10
    ·have hres:=ah (show CS p t=([],2)by
      unfold CS;rw[au (λh=>h hz'.O),aB hbig])
     by_cases h4:4096<t.length
     ·go_wp2_with fail;exact bV (v:=.tuple #[.string (eY []),.int .i64 2]) (by simp[results,results5,go_sem,eY]) rfl ⟨by rw[hres.O],hB1⟩
     ·have h60:60<t.count 10:=by omega
      go_wp2_with fail;exact bV (v:=.tuple #[.string (eY []),.int .i64 2]) (by simp[results,results5,go_sem,eY]) rfl ⟨by rw[hres.O],hB1⟩
    have h4:¬ 4096<t.length:=by omega
    have h60:¬ 60<t.count 10:=by omega
    clear hbig jr9;by_cases hlast:t≠[]/\t.getLast?≠some 10
    ·have hres:=ah (show CS p t=([],1)by
      unfold CS;rw[au (λh=>h hz'.O),au (by omega),aB hlast])
     obtain⟨m,hm,h0,hmi,hx⟩:∃m,∃hm:m<t.length,0<(t.length:Int)/\(t.length:Int) - 1=(m:Int)/\¬((t[m]:Nat):Int)=10:=by
      have h0:=uF.2 hlast.1;refine⟨t.length - 1,by omega,by omega,by omega,λh=>hlast.2 ?_⟩
      rw[zH,bQ (by omega)]
      congr 1
      omega
     have hix:=Qk hbt.O hm (by omega)
     clear hlast;go_wp2_with fail;exact bV (v:=.tuple #[.string (eY []),.int .i64 1]) (by simp[results,results5,go_sem,eY]) rfl ⟨by rw[hres.O],hB1⟩
    have hres:=ah (jce hz'.O h4 h60 (by
     by_cases ht:t=[]
     ·exact .inl ht
     ·exact .inr (uG λh=>hlast ⟨ht,h⟩)))
    have hgo:(¬ 0<(t.length:Int))\/∃m,∃hm:m<t.length,0<(t.length:Int)/\(t.length:Int) - 1=(m:Int)/\((t[m]:Nat):Int)=10:=by
     by_cases ht:t=[]
     ·left;rw[ht];simp
     ·right
      have h0:=uF.2 ht;have hg:t.getLast?=some 10:=uG λh=>hlast ⟨ht,h⟩
      rw[zH,bQ (by omega)]at hg
      injection hg with hg
      exact⟨t.length - 1,by omega,by omega,by omega,by omega⟩
    have hgo':=ah hgo;clear hlast hgo;rcases hgo'.O with h0|⟨m,hm,h0,hmi,hx⟩
    case' inr=>have hix:=Qk hbt.O hm (by omega)
    all_goals
     go_wp2_with fail;clear hgo';try clear hix hx hmi hm
     refine(jiv wr (.agg (xu p Ab cb As cs)) p (hP'.O _ hB1) hz'.O).mono ?_
     rintro e W2 ⟨V1,rfl,hR1,hb2⟩;have jne:=hR1.one;go_wp2_with (refine dU (.tmp 9) (.tmp 54) dV V1 rfl (Dj W2) rfl jne (λw3 OW hg3=>?_);refine bD ?_)
     unfold Hid;have ja9:=xg hg3;have h03:=(fD hb1 hb2).trans (ja9.mono (aU hb1.size hb2.size));have hB3:=fD hb0 h03;have hU3:=ah (show zn w V1 p (begin p) w3 from .inr ⟨(hR1.below ja9).from_ (aU hb0.size hb1.size),rfl,hz'.O⟩)
     have Jd:=ah OW;have hlx:W0.heap.size<=W2.heap.size:=aU hb1.size hb2.size;have Og:=ah (show iJ w3 w 25 [.slice Ab p.dP.length cb,.slice As p.aW.length cs]from jcQ.O w3 h03)
     clear OW hg3 ja9 hR1 jne hb2 h03;generalize W2.heap.size=bx at Jd hlx ⊢
     go_wp2_with fail;go_loopw[10,11,12] (λo f i wr=>∃(k fr:Nat) (V:SV) (ls:List (List Nat)),k<=t.length/\i=.int .i64 (k:Nat)/\fr<=k/\f=.int .i64 (fr:Nat)/\o=.string (eY (wG p ls (begin p)))/\ls.length<=k/\splitB 10 (t.take k)=ls++[(t.take k).drop fr]/\jB wr bx V/\zn w.heap.size V p (stB p ls (begin p)) wr/\iJ wr w.heap.size 25 [.slice Ab p.dP.length cb,.slice As p.aW.length cs]/\Below w.heap.size w wr) (λ_ _ i _=>t.length - (RowKit.intOf i).toNat)
     case atStart=>exact⟨0,0,V1,[],aN _,rfl,ay _,rfl,rfl,aN _,rfl,Jd.O,hU3.O,Og.O,hB3⟩
     case round=>
      clear Jd hU3 Og hB3;obtain⟨k,fr,V,ls,hk,rfl,hfr,rfl,rfl,hls,hsp,H9,hU,hpl,hBr⟩:=hrel;have hsp':=ah hsp;have jc1:=ah H9;have hU':=ah hU;have hpl':=ah hpl;clear hsp H9 hU hpl;by_cases hkt:k<t.length
      ·first
       |exfalso
        omega
       |have hki:(k:Int)<(t.length:Int):=by omega
        have juD:=Qk hbt.O hkt (by omega)
        by_cases AX:t[k]=10
        ·go_wp2_with fail;have hsn:=ah (jgF hsp'.O hkt AX);have hsub:=PL t fr k;have hck:=ah (TR p ls _ (IV hz'.O));have hlf:=OE p ls _ (IV hz'.O);have hln:=KP hck.O ((splitB 32 ((t.take k).drop fr)).headD []) (splitB 32 ((t.take k).drop fr)).tail;have hst:=ah (Wy p ls ((t.take k).drop fr) (begin p));have jjv:=ah (OD p ls ((t.take k).drop fr) (begin p));obtain⟨x,hxe⟩:∃x,(t.take k).drop fr=x:=⟨_,rfl⟩;rw[hxe]at hsub hsn hln hst jjv
         have hxl:x.length<=4096:=by rw[<- hxe,jv,bC];omega
         have hxb:=ah (show ∀n∈x,n<256 from λn hn=>hbt.O n (oq (Dn (by rw[hxe];exact hn))))
         have hl1:(EJ p (stB p ls (begin p)) x).2.length<=2200000:=hln.2.1;have hl0:(wG p ls (begin p)).length<=4096*2200001:=aU hlf.1 (kE _ (by omega))
         obtain⟨s,hs⟩:∃s,stB p ls (begin p)=s:=⟨_,rfl⟩;rw[hs]at hU' hck hst jjv hl1
         obtain⟨o,ho⟩:∃o,wG p ls (begin p)=o:=⟨_,rfl⟩;rw[ho]at jjv hl0 ⊢
         clear hxe hs ho hlf hln juD AX;obtain⟨s1,o1,hgv⟩:∃s1 o1,EJ p s x=(s1,o1):=⟨_,_,rfl⟩;rw[hgv]at hst jjv hl1
         have joM:=ah hgv;clear hgv;have XH:=jc1.O.lt;have hbne:w.heap.size≠bx:=by omega
         go_wp2_with fail;refine AQ 12 (λw'=>wr.grownBy w' (some bx)) (λw'=>Below wr wr w') (λw1 w2=>(∃V1,jB w1 bx V1)/\w1.grownBy w2 (some bx)) 10 [
          λg _=>g 66=.agg (xu p Ab cb As cs),λg _=>g 67=.agg #[V.on,V.ak,V.aA,V.aF,V.jf,V.O,V.dB],λg _=>g 68=.string (eY t),λg _=>g 69=fr,λg _=>g 70=k,λg _=>g 71=.string (eY x),λg w'=>MV w p s1 (λV=>.tuple #[V.val,.string (eY o1)]) (g 72) w',λg w'=>MV w p s1 (λV=>.tuple #[V.val,.string (eY o1)]) (g 65) w',λg w'=>MV w p s1 SV.val (g 73) w',λg _=>g 74=.string (eY o1),λ_ w'=>∃V1,jB w' bx V1/\zn w V1 p s1 w',λg _=>g 13=.string (eY o1)] (by kernel_rfl) (by kernel_rfl) rfl (by kernel_rfl)
          (λw1 w2 h hb=>BH h (kW hb)) (λw1 w2 h h'=>BH h h'.2) (λw1 w2 h hb=>fD h hb) (kW (aj _ _).drew) (aj _ _).drew ?_ (λf w5 hT hR=>?_)
         ·simp only[aG,aS];refine fQ.vA (λg w' hT hJ ho hd=>?_) ?_
          ·have hb:=hJ (.inr ⟨_,⟨0,.phase⟩,rfl,by simp,rfl,rfl⟩)
           have e2:=ho 2 rfl;have y0:=(hpl'.O.below hb hpl'.O.lt).cell (j:=0) rfl;have y1:=(hpl'.O.below hb hpl'.O.lt).cell (j:=1) rfl;go_simp
          refine fQ.vA (λg w' hT hJ ho hd=>?_) ?_
          ·have hb:=hJ (.inr ⟨_,⟨1,.phase⟩,rfl,by simp,rfl,rfl⟩)
           have e9:=ho 9 rfl;obtain⟨x0,x1,x2,x3,x4,x5,x6⟩:=(jc1.O.below hb XH).cells;go_simp
          refine fQ.vA (λg w' hT hJ ho hd=>?_) ?_
          ·have hb:=hJ (.inr ⟨_,⟨2,.phase⟩,rfl,by simp,rfl,rfl⟩)
           have e1:=ho 1 rfl;go_simp
          refine fQ.vA (λg w' hT hJ ho hd=>?_) ?_
          ·have hb:=hJ (.inr ⟨_,⟨3,.phase⟩,rfl,by simp,rfl,rfl⟩)
           have e11:=ho 11 rfl;go_simp
          refine fQ.vA (λg w' hT hJ ho hd=>?_) ?_
          ·have hb:=hJ (.inr ⟨_,⟨4,.phase⟩,rfl,by simp,rfl,rfl⟩)
           have e12:=ho 12 rfl;go_simp
          refine fQ.vA (λg w' hT hJ ho hd=>?_) ?_
          ·have hb:=hJ (.inr ⟨_,⟨5,.phase⟩,rfl,by simp,rfl,rfl⟩)
           have e68:_=_:=hd.d 2;have e69:_=_:=hd.d 3;have e70:_=_:=hd.d 4;go_simp
          refine fQ.cons (CW.jew (d:=72) (p:=MV w p s1 (λV=>.tuple #[V.val,.string (eY o1)])) rfl rfl (by decide) (λv w1 w2 h hb=>h.elim λV h=>⟨V,h.1,h.2.below hb⟩) (λv w1 w2 h hb=>h.elim λV h=>hb.1.elim λV1 N9=>⟨V,h.1,h.2.kept hb.2 N9⟩) (λg w' hT hJ ho hd=>?_)) ?_
          ·have hb:=hJ (.inr ⟨_,⟨6,.phase⟩,rfl,by simp,rfl,rfl⟩)
           have e66:_=_:=hd.d 0;have e67:_=_:=hd.d 1;have e71:_=_:=hd.d 5;unfold iq;go_simp
           refine(jnU w' (.agg (xu p Ab cb As cs)) V w p s x (hP'.O _ (fD hBr hb)) (hU'.O.below hb) (aU hBr.size hb.size) hck.O hxb.O hxl).mono ?_
           rintro e w2 ⟨V2,rfl,hM2,hb2⟩;rw[joM.O]at hM2 ⊢
           exact⟨_,rfl,⟨V2,rfl,hM2⟩,hb2⟩
          refine fQ.cons (CW.jew (d:=65) (p:=MV w p s1 (λV=>.tuple #[V.val,.string (eY o1)])) rfl rfl (by decide) (λv w1 w2 h hb=>h.elim λV h=>⟨V,h.1,h.2.below hb⟩) (λv w1 w2 h hb=>h.elim λV h=>hb.1.elim λV1 N9=>⟨V,h.1,h.2.kept hb.2 N9⟩) (λg w' hT hJ ho hd=>?_)) ?_
          ·obtain⟨V2,e72,hM2⟩:MV w p s1 (λV=>.tuple #[V.val,.string (eY o1)]) (g 72) w':=hd.d 6
           have jff:=ah hM2;clear hM2;unfold iq;go_simp
           exact⟨⟨V2,rfl,jff.O⟩,aj _ _⟩
          refine fQ.cons (CW.jew (d:=73) (p:=MV w p s1 SV.val) rfl rfl (by decide) (λv w1 w2 h hb=>h.elim λV h=>⟨V,h.1,h.2.below hb⟩) (λv w1 w2 h hb=>h.elim λV h=>hb.1.elim λV1 N9=>⟨V,h.1,h.2.kept hb.2 N9⟩) (λg w' hT hJ ho hd=>?_)) ?_
          ·obtain⟨V2,e65,hM2⟩:MV w p s1 (λV=>.tuple #[V.val,.string (eY o1)]) (g 65) w':=hd.d 7
           have jff:=ah hM2;clear hM2;unfold iq;go_simp
           exact⟨⟨V2,rfl,jff.O⟩,aj _ _⟩
          refine fQ.v (λg w' hT ho hd=>?_) ?_
          ·obtain⟨V2,e65,hM2⟩:MV w p s1 (λV=>.tuple #[V.val,.string (eY o1)]) (g 65) w':=hd.d 7
           clear hM2;go_simp
          refine fQ.cons ⟨λg w1 w2 ⟨V1,h1,h2⟩ hb=>⟨V1,h1.below hb h1.lt,h2.below hb⟩,λhne=>absurd rfl hne,λg g' w1 he h=>h,λg w' hT hJ ho hd=>?_⟩ ?_
          ·have e9:g 9=.pointer (some bx):=ho 9 rfl;obtain⟨V2,e73,hM2⟩:MV w p s1 SV.val (g 73) w':=hd.d 8;have N9:=jc1.O.below (hJ (.inl rfl)) XH;refine KY (.tmp 9) (.tmp 73) rfl bx V V2 N9 e9 e73 hM2.made.one (λw8 IL Qq=>?_)
           exact⟨⟨V2,IL,hM2.kept Qq N9⟩,.inr ⟨rfl,⟨V,N9⟩,Qq⟩⟩
          refine fQ.v (λg w' hT ho hd=>?_) ?_
          ·have e74:_=_:=hd.d 9;go_simp
          exact fQ.nil
         obtain⟨r66,r67,r68,r69,r70,r71,⟨_,r72,_⟩,⟨_,r65,_⟩,⟨_,r73,_⟩,r74,⟨V5,OV,hM5⟩,r13,_⟩:=hR;simp only[kP,qJ,aG,aS,bU,dH,bY,cO,dA,dL,aQ,bG,bH,r66,r67,r68,r69,r70,r71,r72,r65,r73,r74,r13];clear r66 r67 r68 r69 r70 r71 r72 r65 r73 r74 r13;refine eP ?_
         have hb5:=hBr.grown hT hBr.size (λj hj=>by injection hj with hj;have:=hb0.size;omega)
         have juj:=ah (hpl'.O.grown hT (by intro he;injection he with he;exact hbne he))
         have jme:=ah hM5;have XJ:=ah OV;have kX:=pK o;have um:=pK o1;have ha1:=GL o o1;have hsz2:=pK (o++o1);rw[aX]at hsz2
         have ha2:eY (o++o1)++⟨#[10]⟩=eY (o++o1++[10]):=GL _ [10];clear hT hM5 OV hU' jc1 hpl' hsub;go_wp2_with fail;go_roundw
         case rel=>exact⟨k+1,k+1,V5,ls++[x],by omega,by go_num,ay _,by go_num,by rw[jjv.O,gZ],by rw[aX];simp;omega,hsn.O,XJ.O,by rw[hst.O];exact jme.O,juj.O,hb5⟩
         all_goals(simp[dY]<;>omega)
        ·have hsn:=ah (jhZ hsp'.O hfr hkt AX);go_wp2_with fail;go_roundw
         case rel=>exact⟨k+1,fr,V,ls,by omega,by go_num,by omega,rfl,rfl,by omega,hsn.O,jc1.O,hU'.O,hpl'.O,hBr⟩
         all_goals(simp[dY]<;>omega)
      ·obtain rfl:k=t.length:=by omega
       have he:wG p (splitB 10 t).dropLast (begin p)=wG p ls (begin p):=by
        have:=hsp'.O;rw[dR]at this
        rw[this];simp
       have he':=ah he;clear he;go_wp2_with fail;exact bV (v:=.tuple #[.string (eY (wG p ls (begin p))),zI]) (by simp[results,results5,go_sem]) rfl ⟨by rw[hres.O,he'.O],hBr⟩
 ·have hres:=ah (show CS p t=([],fU p)by
   unfold CS;rw[aB hz])
  have hzb:(fU p !=0)=true:=by simpa using hz
  clear hz;go_wp2_with fail;exact bV (v:=.tuple #[.string (eY []),(fU p)]) (by simp[results,results5,go_sem,eY]) rfl ⟨by rw[hres.O],hB1⟩
end
end Wh
