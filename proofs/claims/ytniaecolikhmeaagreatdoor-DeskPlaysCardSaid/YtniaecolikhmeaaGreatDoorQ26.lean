/- Texts of the claim, joined. -/
import Derived.Test.YtniaecolikhmeaaGreatDoorQ25
set_option maxHeartbeats 20000000
set_option maxRecDepth 100000
set_option linter.all false
namespace Wh
open Go Go.RowKit Go.Shelf Go.Proofs Tryz
section
attribute [local go_sem] aV jF iY jI
def kindOf(op:List Nat):Option (Int×Int):=
 if op=lS then some (1,3)else if op=ou then some (4,1)else if op=xY then some (5,4)else if op=sG then some (7,2)
 else if op=sW then some (8,3)else if op=nJ then some (3,0)else if op=zL then some (6,0)else none
def jf9(k:Int)(l:List Int):Qw:=⟨k,aZ l 0,aZ l 1,aZ l 2,aZ l (l.length - 1),[]⟩
theorem jgV{op:List Nat}{l:List Int}{k n:Int}(h:kindOf op=some (k,n))(hn:(l.length:Int)=n):∃y,xq op l=some y/\∀p s,act p s (jf9 k l)=act p s y:=by
 have hl:l.length=n.toNat:=by omega
 clear hn;unfold kindOf at h
 unfold xq;repeat' split at h
 all_goals first
  |(cases h;done)
  |(rename_i e
    subst e;injection h with h
    injection h with h1 h2
    subst h1 h2;simp at hl
    exact⟨_,by simp[hl,lS,ou,xY,sG,sW,nJ,zL];rfl,λp s=>by simp[act,jf9,aZ,hl]⟩)
theorem kind_none{op:List Nat}{l:List Int}{k n:Int}(h:kindOf op=some (k,n))(hn:(l.length:Int)≠n):xq op l=none:=by
 unfold kindOf at h
 unfold xq;repeat' split at h
 all_goals first
  |(cases h;done)
  |(rename_i e
    subst e;injection h with h
    injection h with h1 h2
    subst h1 h2;simp[lS,ou,xY,sG,sW,nJ,zL,zx]
    first
     |omega
     |(intro e;subst e;simp at hn))
theorem jlD{op:List Nat}{l:List Int}(h:kindOf op=none)(hn:¬(op=zx/\l.length%2=0/\2<=l.length/\l.length<=6)):xq op l=none:=by
 unfold kindOf at h
 unfold xq;repeat' split at h
 all_goals first
  |(cases h;done)
  |(rw[au (by simp_all),au (by simp_all),au (by simp_all),au (by simp_all),au (by simp_all),au (by simp_all),au (by simp_all),au hn])
theorem jpC{w:World}{aT:Nat}{v:Value}{ls ls':List Line}(h:Own mX 4 106 w aT v ls)(he:ls=ls')(hn:ls'.length<=5000):Sl mX w w v ls':=by
 subst he;exact h.sl (by omega)
theorem jid{op:List Nat}{l:List Int}{x d:Qw}(h:xq op l=some x)(hs:∀p s,act p s d=act p s x):∀y,xq op l=some y->∀p s,act p s d=act p s y:=by
 intro y hy;rw[h]at hy
 injection hy with hy
 subst hy;exact hs
theorem jvF(w:World)(lb:Nat)(A:Option Addr)(c:Nat)(l:List Int)(k:Int)(hl:w.cell? lb=some (.slice A l.length c))(hA:At w w A (l.flatMap iW))(h0:0<=k):Calls prog 59 #[k,.pointer (some lb)] w λe w'=>e=.returned ((aZ l k.toNat))/\w=w':=by
 by_cases hk:k<l.length
 ·obtain⟨ok0,lA,c0⟩:=hA.int (i:=k.toNat) (by omega)
  clear hA;go_enter func59,ntmps59
  go_wp2_with fail;exact bV (v:=(aZ l k.toNat)) (by simp[results,results59,go_sem]) rfl ⟨rfl,rfl⟩
 ·have he:aZ l k.toNat=0:=by unfold aZ;rw[fK,qg (by omega)];rfl
  rw[he];clear hA;go_enter func59,ntmps59
  go_wp2_with fail;exact bV (v:=zI) (by simp[results,results59,go_sem]) rfl ⟨rfl,rfl⟩
theorem jpB(w:World)(b:Bool):Calls prog 60 #[.bool b] w λe w'=>e=.returned (.int .i64 (if b then 1 else 0))/\w=w':=by
 cases b
 ·go_enter func60,ntmps60
  go_wp2_with fail;exact bV (v:=zI) (by simp[results,results60,go_sem]) rfl ⟨rfl,rfl⟩
 ·go_enter func60,ntmps60
  go_wp2_with fail;exact bV (v:=.int .i64 1) (by simp[results,results60,go_sem]) rfl ⟨rfl,rfl⟩
def jhK(x:Option Qw)(w:World)(e:Ending)(w':World):Prop:=Below w w w'/\∃vd d,e=.returned (.tuple #[vd,.bool x.isSome])/\Yo w' w' vd d/\∀y,x=some y->∀p s,act p s d=act p s y
theorem jhR(w:World):(zeroValue 101).run prog w=.ok (.agg #[zI,zI]) w:=by kernel_rfl
def Rk:Array MapEntry:=#[⟨.string ⟨#[114,101,99,101,105,118,101]⟩,.agg #[.int .i64 1,.int .i64 3],0⟩,⟨.string ⟨#[99,97,110,99,101,108]⟩,.agg #[.int .i64 4,.int .i64 1],1⟩,⟨.string ⟨#[112,105,99,107]⟩,.agg #[.int .i64 5,.int .i64 4],2⟩,⟨.string ⟨#[109,111,118,101,100]⟩,.agg #[.int .i64 7,.int .i64 2],3⟩,⟨.string ⟨#[99,111,117,110,116]⟩,.agg #[.int .i64 8,.int .i64 3],4⟩,⟨.string ⟨#[114,101,108,101,97,115,101]⟩,.agg #[.int .i64 3,zI],5⟩,⟨.string ⟨#[102,105,108,108]⟩,.agg #[.int .i64 6,zI],6⟩]
theorem jgU{op:List Nat}(hop:∀x∈op,x<256):∃x,Instr.findNow .string (.string (eY op)) Rk.toList 0=some x/\x.map (·.2)=(kindOf op).map λk=>.agg #[k.1,k.2]:=by
 have hw:∀W:List Nat,(∀x∈W,x<256)->(eY op==eY W)=decide (op=W):=λW hW=>by
  show((eY op).data==(eY W).data)=_;by_cases h:op=W
  ·subst h;simp
  ·have:(eY op).data≠(eY W).data:=λe=>h ((jkI hop hW).1 (by rw[ByteArray.ext_iff];exact e))
   simp[h,this]
 have q1:(eY op==⟨#[114,101,99,101,105,118,101]⟩)=decide (op=lS):=hw lS (by decide)
 have q2:(eY op==⟨#[99,97,110,99,101,108]⟩)=decide (op=ou):=hw ou (by decide)
 have q3:(eY op==⟨#[112,105,99,107]⟩)=decide (op=xY):=hw xY (by decide)
 have q4:(eY op==⟨#[109,111,118,101,100]⟩)=decide (op=sG):=hw sG (by decide)
 have q5:(eY op==⟨#[99,111,117,110,116]⟩)=decide (op=sW):=hw sW (by decide)
 have q6:(eY op==⟨#[114,101,108,101,97,115,101]⟩)=decide (op=nJ):=hw nJ (by decide)
 have q7:(eY op==⟨#[102,105,108,108]⟩)=decide (op=zL):=hw zL (by decide)
 simp only[Rk,Instr.findNow,Instr.sameNow,q1,q2,q3,q4,q5,q6,q7];unfold kindOf;by_cases e1:op=lS
 ·subst e1;simp[lS,ou,xY,sG,sW,nJ,zL]
 by_cases e2:op=ou
 ·subst e2;simp[lS,ou,xY,sG,sW,nJ,zL]
 by_cases e3:op=xY
 ·subst e3;simp[lS,ou,xY,sG,sW,nJ,zL]
 by_cases e4:op=sG
 ·subst e4;simp[lS,ou,xY,sG,sW,nJ,zL]
 by_cases e5:op=sW
 ·subst e5;simp[lS,ou,xY,sG,sW,nJ,zL]
 by_cases e6:op=nJ
 ·subst e6;simp[lS,ou,xY,sG,sW,nJ,zL]
 by_cases e7:op=zL
 ·subst e7;simp[lS,ou,xY,sG,sW,nJ,zL]
 simp[e1,e2,e3,e4,e5,e6,e7]
theorem jf7(w:World)(cs:Array Value)(T:TypeId):((w.alloc (.cells cs T)).alloc (.map Rk 7)).heap[w.heap.size+1]?=some (.map Rk 7):=by
 have:=iJ.newObj (w.alloc (.cells cs T)) (.map Rk 7);rwa [dK]at this
theorem jtc(w:World)(op:List Nat)(v:Value)(l:List Int)(hop:∀x∈op,x<256)(hv:Sl iW w w v l)(hl:l.length<=5000):Calls prog 37 #[.string (eY op),v] w (jhK (xq op l) w):=by
 have hmf:∀(fn:Fn) (first cap:Array Value) (w:World),(Instr.makeFunc fn first cap).run prog w=.ok (.func fn first cap) w:=λ_ _ _ _=>rfl
 have hmm:=@run_makeMap_plain prog;obtain⟨A,c,rfl⟩:=hv.isSlice;have hA:=ah hv.at_;clear hv;go_enter func37,ntmps37
 go_wp2_with fail;have hb0:Below w w ((w.alloc (.cells #[.slice A l.length c] 23)).alloc (.cells NV 81)):=((aj _ _).alloc (ay _) _).alloc (by simp) _
 have hlb:iJ ((w.alloc (.cells #[.slice A l.length c] 23)).alloc (.cells NV 81)) w 23 [.slice A l.length c]:=(iJ.new _ _ _).alloc _;have hrb:iJ ((w.alloc (.cells #[.slice A l.length c] 23)).alloc (.cells NV 81)) (w.heap.size+1) 81 [zI,zI,zI,zI,zI,nS]:=by
  have:=iJ.new (w.alloc (.cells #[.slice A l.length c] 23)) 81 NV;rwa [dK]at this
 have hs0:((w.alloc (.cells #[.slice A l.length c] 23)).alloc (.cells NV 81)).heap.size=w.heap.size+1+1:=by simp
 generalize (w.alloc (.cells #[.slice A l.length c] 23)).alloc (.cells NV 81)=W0 at hb0 hlb hrb hs0 ⊢
 have hat:=ah (λ(W:World) (hW:Below W0 W0 W) (k:Int) (hk:0<=k)=>jvF W w A c l k ((hlb.below hW (by omega)).cell (j:=0) rfl) (hA.O.up (fD hb0 hW) (fD hb0 hW).size) hk)
 have je0:=ah hlb;have jok:=ah hrb;clear hlb hrb;have hs0':=ah hs0;clear hs0;refine(hat.O W0 (aj _ _) 0 (by decide)).mono ?_
 rintro e w' ⟨rfl,rfl⟩;go_wp2_with fail;refine(hat.O W0 (aj _ _) 1 (by decide)).mono ?_
 rintro e w' ⟨rfl,rfl⟩;go_wp2_with fail;refine(hat.O W0 (aj _ _) 2 (by decide)).mono ?_
 rintro e w' ⟨rfl,rfl⟩;obtain⟨kx,hkf,hkx⟩:=jgU hop;have y0:=je0.O.cell (j:=0) rfl;have lt0:w.heap.size<W0.heap.size:=by have:=hs0'.O;omega
 have lt1:w.heap.size+1<W0.heap.size:=by have:=hs0'.O;omega
 have w8:(eY op).toList=[101,110,116,101,114]↔op=zx:=xO (W:=zx) hop (by decide)
 cases hk:kindOf op with
 |none=>
  obtain rfl:kx=none:=by
   rw[hk]at hkx
   cases kx with
   |none=>rfl
   |some y=>cases hkx
  clear hkx;go_wp2_with (first
   |(refine KN _ rfl (.tmp 20) _ _ 102 9 101 rfl underlying102 underlying9 _ _ _ (by simp[go_sem]) rfl (by kernel_rfl) ?_)
   |(refine KL _ rfl (.tmp 30) (.tmp 31) 102 9 101 rfl underlying102 underlying9 _ (jhR _) (W0.heap.size+1) Rk 7 _ (jf7 _ _ _) rfl rfl _ hkf (λW1 hW1=>?_);refine bD ?_))
  unfold Hid;try simp only[Option.map_none,Option.getD_none,zq]
  have hb1:Below W0 W0 W1:=by rw[<- hW1];exact((aj _ _).alloc (ay _) _).alloc (by simp) _
  have hx1:iJ W1 W0 81 [zI,(aZ l 0),(aZ l 1),(aZ l 2),zI,nS]:=by rw[<- hW1];exact(iJ.new _ _ _).alloc _
  have hs1:W1.heap.size=W0.heap.size+1+1:=by rw[<- hW1];simp
  have hs1':=ah hs1;clear hW1 hs1;have ltx:=hx1.lt;have hr1:=jok.O.below hb1 lt1;have y0:=(je0.O.below hb1 lt0).cell (j:=0) rfl;have lt0:=aJ lt0 hb1.size;have lt1:=aJ lt1 hb1.size;have hB1:=fD hb0 hb1;by_cases hen:op=zx/\l.length%2=0/\2<=l.length/\l.length<=6
  ·obtain⟨ja1,hev,h2,h6⟩:=hen;have d8:=w8.2 ja1;have hei:(l.length:Int)%2=0:=by omega
   have hact:=ah (show xq op l=some ⟨2,0,0,0,0,pairs l⟩by rw[ja1];unfold xq;simp[hev,h2,h6,lS,ou,xY,sG,sW,nJ,zL,zx])
   clear ja1 w8 hk;go_wp2_with (refine jP rfl 81 (.tmp 7) (.tmp 77) rfl W0 #[.int .i64 2,zI,zI,zI,zI,nS] rfl rfl 81 _ (hx1.alloc (.cells #[zI,zI] 101)) (by kernel_rfl) rfl (by simp[Value.oneCell']) ?_;refine bD ?_)
   unfold Hid;have hxr:W0.heap.size≠w.heap.size+1:=by have:=hs0'.O;omega
   have hxl:W0.heap.size≠w.heap.size:=by have:=hs0'.O;omega
   have ha2:=ah (show iJ ((W1.alloc (.cells #[zI,zI] 101)).setRow W0 #[.int .i64 2,zI,zI,zI,zI,nS]) W0 81 [.int .i64 2,zI,zI,zI,zI,nS]from iJ.row (hx1.alloc _) [.int .i64 2,zI,zI,zI,zI,nS])
   have hz2:=ah ((hr1.alloc (.cells #[zI,zI] 101)).other (uy hxr) #[.int .i64 2,zI,zI,zI,zI,nS]);have hl2:=ah (((je0.O.below hb1 (by omega)).alloc (.cells #[zI,zI] 101)).other (uy hxl) #[.int .i64 2,zI,zI,zI,zI,nS])
   have hB2:=ah (tV (hB1.alloc hB1.size (.cells #[zI,zI] 101)) hb0.size #[.int .i64 2,zI,zI,zI,zI,nS]);have hxb:w.heap.size<=W0.heap.size:=hb0.size;obtain⟨bx,hbx⟩:∃bx,W0.heap.size=bx:=⟨_,rfl⟩;rw[hbx]at ha2 hz2 hl2 hB2 hxr hxl hxb ⊢
   clear hr1 y0 hx1 hB1 hb1 lt0 lt1 ltx hkf hs1' hs0' hat je0 jok hb0;generalize (W1.alloc (.cells #[zI,zI] 101)).setRow bx #[.int .i64 2,zI,zI,zI,zI,nS]=W2 at ha2 hz2 hl2 hB2 ⊢
   have hpl':=ah (TW l);go_wp2_with fail;go_loopw[11] (λi wr=>∃(k:Nat) (vl:Value),2*k<=l.length/\i=.int .i64 ((2*k:Nat):Int)/\iJ wr (w.heap.size+1) 81 [zI,zI,zI,zI,zI,nS]/\iJ wr bx 81 [.int .i64 2,zI,zI,zI,zI,vl]/\iJ wr w.heap.size 23 [.slice A l.length c]/\Own mX 4 106 wr w.heap.size vl ((pairs l).take k)/\Below w.heap.size w wr) (λi _=>l.length - (RowKit.intOf i).toNat)
   case atStart=>exact⟨0,_,aN _,rfl,hz2.O,ha2.O,hl2.O,Own.nil,hB2.O⟩
   case round=>
    clear hz2 ha2 hl2 hB2;obtain⟨k,vl,hk,rfl,hxz,hxa,Qp,hO,hBr⟩:=hrel;obtain⟨A1,c1,hv1⟩:=hO.isSlice;have hlk:((pairs l).take k).length=k:=by
     rw[bC];have:=hpl'.O;omega
    rw[hlk]at hv1
    subst hv1;have Ue:=ah hxz;have J7:=ah hxa;have hO':=ah hO;have y0:=Qp.cell (j:=0) rfl;have ly:=Qp.lt;have jlX:=ah Qp;clear hxz hxa hO Qp;obtain⟨m,hm⟩:∃m,2*k=m:=⟨_,rfl⟩;rw[hm];by_cases hlt:2*k<l.length
    ·have hmi:(m:Int)<(l.length:Int):=by omega
     have hmj:(m:Int)+1<(l.length:Int):=by omega
     have g1:(0:Int)<=(m:Int)+1:=by omega
     have v1:((m:Int)+1).toNat=m+1:=by omega
     have u1:IntKind.i64.wrap ((m:Int)+1)=(m:Int)+1:=aP _ (by omega)
     have u2:IntKind.i64.wrap ((m:Int)+2)=(m:Int)+2:=aP _ (by omega)
     have hsn:=ah (show(pairs l).take (k+1)=(pairs l).take k++[(⟨aZ l m,aZ l (m+1),0,0⟩:Line)]by
      have hkl:k<(pairs l).length:=by rw[hpl'.O];omega
      rw[bM hkl,TY l k hkl,hm])
     obtain⟨ok0,lA,c0⟩:=(hA.O.up hBr (ay _)).int (i:=m) (by omega)
     obtain⟨_,_,c1'⟩:=(hA.O.up hBr (ay _)).int (i:=m+1) (by omega)
     have lA':iH A<wr.heap.size:=aJ lA hBr.size;have x5:=J7.O.cell (j:=5) rfl;have lx:=J7.O.lt;have hbs:=hBr.size;go_wp2_with fail;refine IX 13 [rV 84 (.pointer (some ⟨bx,5,none⟩)),rV 85 (.slice A1 k c1),rV 86 (.slice A l.length c),rV 87 (m),rV 88 (.pointer (some ⟨iH A,l9 A+m,none⟩)),rV 89 ((aZ l m)),rV 90 (.slice A l.length c),rV 91 (m),rV 92 (.int .i64 ((m:Int)+1)),rV 93 (.pointer (some ⟨iH A,l9 A+(m+1),none⟩)),rV 94 (.int .i64 (aZ l (m+1))),rV 95 (.agg #[(aZ l m),.int .i64 (aZ l (m+1)),zI,zI]),λgq w'=>(λv w'=>∃bb,v=.slice (some ⟨bb,0,none⟩) 1 1/\iJ w' bb 106 [(aZ l m),.int .i64 (aZ l (m+1)),zI,zI]) (gq 96) w'] ?_ (λf W2 hb2 hR=>?_)
     simp only[aG,aS];refine bT.v (λgq w' hb ho hd=>?_) ?_
     ·have e7:=ho 7 rfl;go_simp
     refine bT.v (λgq w' hb ho hd=>?_) ?_
     ·have e84:_=_:=hd.d 0;have x5':=(hb.cell (p:=⟨bx,5,none⟩) lx).trans x5;go_simp
     refine bT.v (λgq w' hb ho hd=>?_) ?_
     ·have e3:=ho 3 rfl;have y0':=(hb.cell (p:=w) ly).trans y0;go_simp
     refine bT.v (λgq w' hb ho hd=>?_) ?_
     ·have e11:=ho 11 rfl;go_simp
     refine bT.v (λgq w' hb ho hd=>?_) ?_
     ·have e86:_=_:=hd.d 2;have e87:_=_:=hd.d 3;go_simp
     refine bT.v (λgq w' hb ho hd=>?_) ?_
     ·have e88:_=_:=hd.d 4;have c0':=(hb.cell (p:=⟨iH A,l9 A+m,none⟩) lA').trans c0;go_simp
     refine bT.v (λgq w' hb ho hd=>?_) ?_
     ·have e3:=ho 3 rfl;have y0':=(hb.cell (p:=w) ly).trans y0;go_simp
     refine bT.v (λgq w' hb ho hd=>?_) ?_
     ·have e11:=ho 11 rfl;go_simp
     refine bT.v (λgq w' hb ho hd=>?_) ?_
     ·have e91:_=_:=hd.d 7;go_simp
     refine bT.v (λgq w' hb ho hd=>?_) ?_
     ·have e90:_=_:=hd.d 6;have e92:_=_:=hd.d 8;go_simp
     refine bT.v (λgq w' hb ho hd=>?_) ?_
     ·have e93:_=_:=hd.d 9;have jvL:=(hb.cell (p:=⟨iH A,l9 A+(m+1),none⟩) lA').trans c1';go_simp
     refine bT.v (λgq w' hb ho hd=>?_) ?_
     ·have e89:_=_:=hd.d 5;have e94:_=_:=hd.d 10;go_simp
     refine bT.cons (sN.one (d:=96) (p:=(λv w'=>∃bb,v=.slice (some ⟨bb,0,none⟩) 1 1/\iJ w' bb 106 [(aZ l m),.int .i64 (aZ l (m+1)),zI,zI])) rfl rfl (λv w1 w2 h hb=>let ⟨bb,h1,h2⟩:=h;⟨bb,h1,h2.below hb h2.lt⟩) (λgq w' hb ho hd=>?_)) ?_
     ·have e95:_=_:=hd.d 11;unfold iq;go_simp
      exact⟨iJ.new _ _ _,(aj _ _).alloc (ay _) _⟩
     exact bT.nil;obtain⟨r84,r85,r86,r87,r88,r89,r90,r91,r92,r93,r94,r95,r96,_⟩:=hR;replace r96:∃bb,(f 96)=.slice (some ⟨bb,0,none⟩) 1 1/\iJ W2 bb 106 [(aZ l m),.int .i64 (aZ l (m+1)),zI,zI]:=r96;simp only[kP,qJ,aG,aS,bU,dH,bY,cO,dA,dL,aQ,bG,bH,r84,r85,r86,r87,r88,r89,r90,r91,r92,r93,r94,r95];clear r84 r85 r86 r87 r88 r89 r90 r91 r92 r93 r94 r95;obtain⟨bb,r96,hbb⟩:=r96;simp only[r96];clear r96;have hO2:=ah (hO'.O.below hb2);have hz2:=ah (Ue.O.below hb2 Ue.O.lt);have ha2:=ah (J7.O.below hb2 lx);have hl2:=ah (jlX.O.below hb2 ly);have hB2:=fD hBr hb2;have hs2:=hb2.size;have jj2:=ah hbb;clear hbb hO' Ue J7 jlX hb2 x5 lx c0 c1' y0 ly;refine jV _ rfl (.tmp 85) (.tmp 96) 79 106 rfl w.heap.size _ 4 32 underlying79 OJ rfl (by decide) (by decide) (.slice A1 k c1) ((pairs l).take k) (⟨aZ l m,aZ l (m+1),0,0⟩:Line) rfl hO2.O bb 1 rfl rfl (λj u hj=>by rw[gy,fM];exact jj2.O.cell hj) (jaL _) (by omega) (by omega) ?_
     intro v9 w9 C9 jg Oe AA;obtain⟨A9,c9,jaY⟩:=C9.isSlice;have hn9:((pairs l).take k++[(⟨aZ l m,aZ l (m+1),0,0⟩:Line)]).length=k+1:=by rw[aX,hlk];rfl
     rw[hn9]at jaY
     subst jaY;have key:∀ {g:Nat} {t:TypeId} {cur:List Value},iJ W2 g t cur->106≠t->iJ w9 g t cur:=λhk hne=>hk.grown jg (by
      rcases Own.qy hO2.O hk hne with hn|hn
      ·rw[hn];intro he;cases he
      ·exact λhe=>hn he.symm)
     have hz9:=key hz2.O (by decide)
     have ha9:=key ha2.O (by decide)
     have hl9:=key hl2.O (by decide)
     obtain⟨jj5,IK⟩:=Az ha9 5 (.slice A9 (k+1) c9);have ji0:=ah (hz9.grown IK (by intro he;injection he with he;exact hxr he.symm))
     have jrU:=ah (hl9.grown IK (by intro he;injection he with he;exact hxl he.symm))
     have jda:=ah (show iJ (w9.setCell ⟨bx,5,none⟩ (.slice A9 (k+1) c9)) bx 81 [.int .i64 2,zI,zI,zI,zI,.slice A9 (k+1) c9]from jj5)
     have Xy:=ah (show Own mX 4 106 (w9.setCell ⟨bx,5,none⟩ (.slice A9 (k+1) c9)) w (.slice A9 (k+1) c9) ((pairs l).take (k+1))by
      rw[hsn.O];exact C9.kept IK (Own.qy C9 ha9 (by decide)))
     have Bj:=hB2.trans AA;have Oi:=Bj.grown IK Bj.size (λj hj=>by injection hj with hj;omega)
     have b5c:=ha9.cell (j:=5) rfl;have f5c:=ha9.frozen 5;have l5c:=ha9.lt;clear C9 jg AA hn9 hz9 ha9 hl9 jj5 IK hO2 hz2 ha2 hl2 hB2 jj2 Oe hsn hlk key Bj;go_wp2_with fail;clear b5c f5c l5c;generalize w9.setCell ⟨bx,5,none⟩ (.slice A9 (k+1) c9)=w10 at ji0 jrU jda Xy Oi ⊢
     try go_wp2_with fail
     go_roundw
     case rel=>exact⟨k+1,_,by omega,by rw[show((2*(k+1):Nat):Int)=(m:Int)+2 by omega],ji0.O,jda.O,jrU.O,Xy.O,Oi⟩
     case measure=>simp[dY];omega
    ·have hmi:¬(m:Int)<(l.length:Int):=by omega
     have kQ:(pairs l).take k=pairs l:=kJ (by rw[hpl'.O];omega)
     have x0:=J7.O.cell (j:=0) rfl;have x1:=J7.O.cell (j:=1) rfl;have x2:=J7.O.cell (j:=2) rfl;have x3:=J7.O.cell (j:=3) rfl;have x4:=J7.O.cell (j:=4) rfl;have x5:=J7.O.cell (j:=5) rfl;have lx:=J7.O.lt;go_wp2_with (refine jP rfl 81 (.tmp 4) (.tmp 99) rfl (w.heap.size+1) #[.int .i64 2,zI,zI,zI,zI,.slice A1 k c1] rfl rfl 81 _ Ue.O (by kernel_rfl) rfl (by simp[Value.oneCell']) ?_;refine bD ?_)
     unfold Hid;clear x0 x1 x2 x3 x4 x5;have EO:=ah (show iJ (wr.setRow (w.heap.size+1) #[.int .i64 2,zI,zI,zI,zI,.slice A1 k c1]) (w.heap.size+1) 81 [.int .i64 2,zI,zI,zI,zI,.slice A1 k c1]from iJ.row Ue.O [.int .i64 2,zI,zI,zI,zI,.slice A1 k c1])
     have Bj:=tV hBr (sU w.heap.size) #[.int .i64 2,zI,zI,zI,zI,.slice A1 k c1];have wO:=ah (hO'.O.kept (wL wr (w.heap.size+1) #[.int .i64 2,zI,zI,zI,zI,.slice A1 k c1]) (Own.qy hO'.O Ue.O (by decide)))
     generalize wr.setRow (w.heap.size+1) #[.int .i64 2,zI,zI,zI,zI,.slice A1 k c1]=w9 at EO Bj wO ⊢
     have a0:=EO.O.cell (j:=0) rfl;have a1:=EO.O.cell (j:=1) rfl;have a2:=EO.O.cell (j:=2) rfl;have a3:=EO.O.cell (j:=3) rfl;have a4:=EO.O.cell (j:=4) rfl;have a5:=EO.O.cell (j:=5) rfl;go_wp2_with fail;exact bV (v:=.tuple #[.agg #[.int .i64 2,zI,zI,zI,zI,.slice A1 k c1],.bool true]) (by simp[results,results37,go_sem,a0,a1,a2,a3,a4,a5]) rfl ⟨Bj,_,⟨2,0,0,0,0,pairs l⟩,by rw[hact.O];rfl,⟨_,rfl,jpC wO.O kQ (hpl'.O ▸ by omega)⟩,jid hact.O (λ_ _=>rfl)⟩
  ·have hact:=jlD hk hen;by_cases ja1:op=zx
   ·have d8:=w8.2 ja1;have hno:¬(l.length%2=0/\2<=l.length/\l.length<=6):=λh=>hen ⟨ja1,h⟩
    clear hen hk ja1 w8 hkf;by_cases hev:l.length%2=1
    ·have hei:(l.length:Int)%2=1:=by omega
     have hact:=ah hact;go_wp2_with (refine jP rfl 81 (.tmp 4) (.tmp 76) rfl (w.heap.size+1) NV rfl rfl 81 _ (hr1.alloc (.cells #[zI,zI] 101)) (by kernel_rfl) rfl (by simp[Value.oneCell']) ?_;refine bD ?_)
     unfold Hid;have EO:=ah (show iJ ((W1.alloc (.cells #[zI,zI] 101)).setRow (w.heap.size+1) NV) (w.heap.size+1) 81 [zI,zI,zI,zI,zI,nS]from iJ.row (hr1.alloc _) [zI,zI,zI,zI,zI,nS])
     have Bj:=tV (hB1.alloc hB1.size (.cells #[zI,zI] 101)) (sU w.heap.size) NV;skip
     generalize (W1.alloc (.cells #[zI,zI] 101)).setRow (w.heap.size+1) NV=w9 at EO Bj ⊢
     have a0:=EO.O.cell (j:=0) rfl;have a1:=EO.O.cell (j:=1) rfl;have a2:=EO.O.cell (j:=2) rfl;have a3:=EO.O.cell (j:=3) rfl;have a4:=EO.O.cell (j:=4) rfl;have a5:=EO.O.cell (j:=5) rfl;go_wp2_with fail;exact bV (v:=.tuple #[.agg NV,.bool false]) (by simp[results,results37,go_sem,a0,a1,a2,a3,a4,a5]) rfl ⟨Bj,_,⟨0,0,0,0,0,[]⟩,by rw[hact.O];rfl,⟨_,rfl,Sl.nil⟩,λy hy=>absurd (hact.O.symm.trans hy) (by simp)⟩
    ·have hei:¬(l.length:Int)%2=1:=by omega
     by_cases h2:(l.length:Int)<2
     ·have hact:=ah hact;go_wp2_with (refine jP rfl 81 (.tmp 4) (.tmp 76) rfl (w.heap.size+1) NV rfl rfl 81 _ (hr1.alloc (.cells #[zI,zI] 101)) (by kernel_rfl) rfl (by simp[Value.oneCell']) ?_;refine bD ?_)
      unfold Hid;have EO:=ah (show iJ ((W1.alloc (.cells #[zI,zI] 101)).setRow (w.heap.size+1) NV) (w.heap.size+1) 81 [zI,zI,zI,zI,zI,nS]from iJ.row (hr1.alloc _) [zI,zI,zI,zI,zI,nS])
      have Bj:=tV (hB1.alloc hB1.size (.cells #[zI,zI] 101)) (sU w.heap.size) NV;skip
      generalize (W1.alloc (.cells #[zI,zI] 101)).setRow (w.heap.size+1) NV=w9 at EO Bj ⊢
      have a0:=EO.O.cell (j:=0) rfl;have a1:=EO.O.cell (j:=1) rfl;have a2:=EO.O.cell (j:=2) rfl;have a3:=EO.O.cell (j:=3) rfl;have a4:=EO.O.cell (j:=4) rfl;have a5:=EO.O.cell (j:=5) rfl;go_wp2_with fail;exact bV (v:=.tuple #[.agg NV,.bool false]) (by simp[results,results37,go_sem,a0,a1,a2,a3,a4,a5]) rfl ⟨Bj,_,⟨0,0,0,0,0,[]⟩,by rw[hact.O];rfl,⟨_,rfl,Sl.nil⟩,λy hy=>absurd (hact.O.symm.trans hy) (by simp)⟩
     ·have h6:6<(l.length:Int):=by omega
      have hact:=ah hact;go_wp2_with (refine jP rfl 81 (.tmp 4) (.tmp 76) rfl (w.heap.size+1) NV rfl rfl 81 _ (hr1.alloc (.cells #[zI,zI] 101)) (by kernel_rfl) rfl (by simp[Value.oneCell']) ?_;refine bD ?_)
      unfold Hid;have EO:=ah (show iJ ((W1.alloc (.cells #[zI,zI] 101)).setRow (w.heap.size+1) NV) (w.heap.size+1) 81 [zI,zI,zI,zI,zI,nS]from iJ.row (hr1.alloc _) [zI,zI,zI,zI,zI,nS])
      have Bj:=tV (hB1.alloc hB1.size (.cells #[zI,zI] 101)) (sU w.heap.size) NV;skip
      generalize (W1.alloc (.cells #[zI,zI] 101)).setRow (w.heap.size+1) NV=w9 at EO Bj ⊢
      have a0:=EO.O.cell (j:=0) rfl;have a1:=EO.O.cell (j:=1) rfl;have a2:=EO.O.cell (j:=2) rfl;have a3:=EO.O.cell (j:=3) rfl;have a4:=EO.O.cell (j:=4) rfl;have a5:=EO.O.cell (j:=5) rfl;go_wp2_with fail;exact bV (v:=.tuple #[.agg NV,.bool false]) (by simp[results,results37,go_sem,a0,a1,a2,a3,a4,a5]) rfl ⟨Bj,_,⟨0,0,0,0,0,[]⟩,by rw[hact.O];rfl,⟨_,rfl,Sl.nil⟩,λy hy=>absurd (hact.O.symm.trans hy) (by simp)⟩
   ·have f8:=λh=>ja1 (w8.1 h)
    clear hen hk ja1 w8 hkf;have hact:=ah hact;go_wp2_with (refine jP rfl 81 (.tmp 4) (.tmp 76) rfl (w.heap.size+1) NV rfl rfl 81 _ (hr1.alloc (.cells #[zI,zI] 101)) (by kernel_rfl) rfl (by simp[Value.oneCell']) ?_;refine bD ?_)
    unfold Hid;have EO:=ah (show iJ ((W1.alloc (.cells #[zI,zI] 101)).setRow (w.heap.size+1) NV) (w.heap.size+1) 81 [zI,zI,zI,zI,zI,nS]from iJ.row (hr1.alloc _) [zI,zI,zI,zI,zI,nS])
    have Bj:=tV (hB1.alloc hB1.size (.cells #[zI,zI] 101)) (sU w.heap.size) NV;skip
    generalize (W1.alloc (.cells #[zI,zI] 101)).setRow (w.heap.size+1) NV=w9 at EO Bj ⊢
    have a0:=EO.O.cell (j:=0) rfl;have a1:=EO.O.cell (j:=1) rfl;have a2:=EO.O.cell (j:=2) rfl;have a3:=EO.O.cell (j:=3) rfl;have a4:=EO.O.cell (j:=4) rfl;have a5:=EO.O.cell (j:=5) rfl;go_wp2_with fail;exact bV (v:=.tuple #[.agg NV,.bool false]) (by simp[results,results37,go_sem,a0,a1,a2,a3,a4,a5]) rfl ⟨Bj,_,⟨0,0,0,0,0,[]⟩,by rw[hact.O];rfl,⟨_,rfl,Sl.nil⟩,λy hy=>absurd (hact.O.symm.trans hy) (by simp)⟩
 |some kn=>
  obtain⟨k,n⟩:=kn;obtain⟨i,rfl⟩:∃i,kx=some (i,.agg #[k,n]):=by
   rw[hk]at hkx
   cases kx with
   |none=>cases hkx
   |some y=>obtain⟨i,v⟩:=y;injection hkx with hkx;exact⟨i,by rw[show v=_ from hkx]⟩
  clear hkx;go_wp2_with (first
   |(refine KN _ rfl (.tmp 20) _ _ 102 9 101 rfl underlying102 underlying9 _ _ _ (by simp[go_sem]) rfl (by kernel_rfl) ?_)
   |(refine KL _ rfl (.tmp 30) (.tmp 31) 102 9 101 rfl underlying102 underlying9 _ (jhR _) (W0.heap.size+1) Rk 7 _ (jf7 _ _ _) rfl rfl _ hkf (λW1 hW1=>?_);refine bD ?_))
  unfold Hid;try simp only[jr,ku,vK]
  have hb1:Below W0 W0 W1:=by rw[<- hW1];exact((aj _ _).alloc (ay _) _).alloc (by simp) _
  have hx1:iJ W1 W0 81 [zI,(aZ l 0),(aZ l 1),(aZ l 2),zI,nS]:=by rw[<- hW1];exact(iJ.new _ _ _).alloc _
  have hs1:W1.heap.size=W0.heap.size+1+1:=by rw[<- hW1];simp
  have hs1':=ah hs1;clear hW1 hs1;have ltx:=hx1.lt;have hr1:=jok.O.below hb1 lt1;have y0:=(je0.O.below hb1 lt0).cell (j:=0) rfl;have lt0:=aJ lt0 hb1.size;have lt1:=aJ lt1 hb1.size;have hB1:=fD hb0 hb1;by_cases hn:(l.length:Int)=n
  ·have hnb:((l.length:Int)==n)=true:=by simpa using hn
   obtain⟨y,jnv,hsame⟩:=jgV hk hn;have hact:=ah jnv;have jog:=ah hsame;clear hk hn jnv hsame w8 hkf;have hk2:=iJ.new W1 101 #[k,n];have hx2:=hx1.alloc (.cells #[k,n] 101);have hr2:=hr1.alloc (.cells #[k,n] 101);have hb2:=hb1.trans (((aj W1 W1).alloc (ay _) (.cells #[k,n] 101)).mono hb1.size);have jjB:=ah hk2;have jlK:=ah hx2;have hr2':=ah hr2;have hb2':=ah hb2;clear hk2 hx2 hr2 hb2 hx1 hr1 hb1 hB1;go_wp2_with fail;generalize W1.alloc (.cells #[k,n] 101)=W2 at jjB jlK hr2' hb2' ⊢
   generalize W1.heap.size=kb at jjB ⊢
   clear y0 lt0 lt1 ltx hs1';have hb2:=hb2'.O;have hkl:=jjB.O.lt;obtain⟨bi,hbi⟩:∃bi:Int,(if((l.length:Int)==0)=true then 1 else 0)=bi:=⟨_,rfl⟩
   have hbt:=ah (show ∀W:World,Calls prog 60 #[.bool ((l.length:Int)==0)] W λe w'=>e=.returned (bi)/\W=w' from λW=>by have:=jpB W ((l.length:Int)==0);rwa [hbi]at this)
   obtain⟨m,hm⟩:∃m:Nat,(l.length:Int) - 1+bi=(m:Int):=by
    by_cases h0:l.length=0
    ·exact⟨0,by rw[<- hbi,h0];rfl⟩
    ·exact⟨l.length - 1,by rw[<- hbi,au (by simp;intro h;exact h0 (by simp[h]))];omega⟩
   have hml:aZ l m=aZ l (l.length - 1):=by
    by_cases h0:l.length=0
    ·obtain rfl:=jT h0;simp[aZ]
    ·congr 1
     rw[<- hbi,au (by simp;intro h;exact h0 (by simp[h]))]at hm
     omega
   have hml':=ah hml;have juf:IntKind.i64.wrap ((l.length:Int) - 1)=(l.length:Int) - 1:=aP _ (by omega)
   have hmw:IntKind.i64.wrap ((l.length:Int) - 1+bi)=(m:Int):=by
    have XK:bi=0\/bi=1:=by rw[<- hbi];split<;>simp
    rw[hm];exact aP _ (by omega)
   clear hbi hml hm;refine IX 13 [rV 43 (.pointer (some kb)),rV 44 (k),rV 45 (.func (.func 59) #[] #[.pointer (some w)]),rV 46 (.slice A l.length c),rV 47 (l.length),rV 48 (.int .i64 ((l.length:Int) - 1)),rV 49 (.slice A l.length c),rV 50 (l.length),rV 51 (.bool ((l.length:Int)==0)),λgq w'=>(λv w'=>v=.int .i64 bi) (gq 52) w',rV 53 ((m:Int)),λgq w'=>(λv w'=>v=.int .i64 (aZ l m)) (gq 54) w',rV 55 (.pointer (some W0))] ?_ (λf W3 hb3 hR=>?_)
   simp only[aG,aS];refine bT.v (λgq w' hb ho hd=>?_) ?_
   ·have e9:=ho 9 rfl;go_simp
   refine bT.v (λgq w' hb ho hd=>?_) ?_
   ·have e43:_=_:=hd.d 0;have y1:=(jjB.O.below hb hkl).cell (j:=0) rfl;go_simp
   refine bT.v (λgq w' hb ho hd=>?_) ?_
   ·have e6:=ho 6 rfl;go_simp
   refine bT.v (λgq w' hb ho hd=>?_) ?_
   ·have e3:=ho 3 rfl;have y1:=(je0.O.below (fD hb2 hb) (by have:=hs0'.O;omega)).cell (j:=0) rfl
    go_simp
   refine bT.v (λgq w' hb ho hd=>?_) ?_
   ·have e46:_=_:=hd.d 3;go_simp
   refine bT.v (λgq w' hb ho hd=>?_) ?_
   ·have e47:_=_:=hd.d 4;go_simp
   refine bT.v (λgq w' hb ho hd=>?_) ?_
   ·have e3:=ho 3 rfl;have y1:=(je0.O.below (fD hb2 hb) (by have:=hs0'.O;omega)).cell (j:=0) rfl
    go_simp
   refine bT.v (λgq w' hb ho hd=>?_) ?_
   ·have e49:_=_:=hd.d 6;go_simp
   refine bT.v (λgq w' hb ho hd=>?_) ?_
   ·have e50:_=_:=hd.d 7;go_simp
   refine bT.cons (sN.one (d:=52) (p:=(λv w'=>v=.int .i64 bi)) rfl rfl (λv w1 w2 h hb=>h) (λgq w' hb ho hd=>?_)) ?_
   ·have e51:_=_:=hd.d 8;unfold iq;go_simp
    refine(hbt.O w').mono ?_
    rintro e w2 ⟨rfl,rfl⟩;exact⟨_,rfl,rfl,aj _ _⟩
   refine bT.v (λgq w' hb ho hd=>?_) ?_
   ·have e48:_=_:=hd.d 5;have e52:(gq 52)=bi:=hd.d 9;go_simp
   refine bT.cons (sN.one (d:=54) (p:=(λv w'=>v=.int .i64 (aZ l m))) rfl rfl (λv w1 w2 h hb=>h) (λgq w' hb ho hd=>?_)) ?_
   ·have e45:_=_:=hd.d 2;have e53:_=_:=hd.d 10;unfold iq;go_simp
    refine(hat.O w' (fD hb2 hb) (m:Int) (by omega)).mono ?_
    rintro e w2 ⟨rfl,rfl⟩;exact⟨_,rfl,by rw[dn],aj _ _⟩
   refine bT.v (λgq w' hb ho hd=>?_) ?_
   ·have e7:=ho 7 rfl;go_simp
   exact bT.nil;simp only[Jh]at hR
   simp only[kP,qJ,aG,aS,bU,dH,bY,cO,dA,dL,aQ,bG,bH,hR];clear hR;have hx3:=jlK.O.below hb3 jlK.O.lt;have hr3:=hr2'.O.below hb3 hr2'.O.lt;have h03:=fD hb2 hb3;have hB3:=fD hb0 h03;have hxr:W0.heap.size≠w.heap.size+1:=by have:=hs0'.O;omega
   have hxb:w.heap.size<=W0.heap.size:=hb0.size;clear hb3 hb2 hb2' jjB jlK hr2' hkl hbt hat juf hmw hnb h03;refine tC rfl (.tmp 55) (.tmp 44) rfl rfl W0 0 _ _ rfl rfl (hx3.cell (j:=0) rfl) (hx3.frozen 0) (λw5 hw5=>?_)
   obtain⟨hx5,hg5⟩:=Az hx3 0 (k);rw[hw5]at hx5 hg5
   have hx5:iJ w5 W0 81 [k,(aZ l 0),(aZ l 1),(aZ l 2),zI,nS]:=hx5;have hr5:=hr3.grown hg5 (by intro he;injection he with he;exact hxr he.symm)
   have YV:=hB3.grown hg5 hB3.size (λj hj=>by injection hj with hj;omega)
   clear hw5 hg5 hx3 hr3 hB3;have c4:=hx5.cell (j:=4) rfl;go_wp2_with (refine tC rfl (.tmp 56) (.tmp 54) rfl rfl W0 4 _ _ rfl rfl c4 (hx5.frozen 4) (λw6 hw6=>?_);refine bD ?_)
   unfold Hid;obtain⟨hx6,Jv⟩:=Az hx5 4 ((aZ l m));rw[hw6]at hx6 Jv
   have hx6:iJ w6 W0 81 [k,(aZ l 0),(aZ l 1),(aZ l 2),(aZ l m),nS]:=hx6;have hr6:=hr5.grown Jv (by intro he;injection he with he;exact hxr he.symm)
   have hB6:=YV.grown Jv YV.size (λj hj=>by injection hj with hj;omega)
   clear hw6 Jv hx5 hr5 YV c4;have x0:=hx6.cell (j:=0) rfl;have x1:=hx6.cell (j:=1) rfl;have x2:=hx6.cell (j:=2) rfl;have x3:=hx6.cell (j:=3) rfl;have x4:=hx6.cell (j:=4) rfl;have x5:=hx6.cell (j:=5) rfl;go_wp2_with (refine jP rfl 81 (.tmp 4) (.tmp 57) rfl (w.heap.size+1) #[k,(aZ l 0),(aZ l 1),(aZ l 2),(aZ l m),nS] rfl rfl 81 _ hr6 (by kernel_rfl) rfl (by simp[Value.oneCell']) ?_;refine bD ?_)
   unfold Hid;clear x0 x1 x2 x3 x4 x5 hx6;have EO:=ah (show iJ (w6.setRow (w.heap.size+1) #[k,(aZ l 0),(aZ l 1),(aZ l 2),(aZ l m),nS]) (w.heap.size+1) 81 [k,(aZ l 0),(aZ l 1),(aZ l 2),(aZ l m),nS]from iJ.row hr6 [k,(aZ l 0),(aZ l 1),(aZ l 2),(aZ l m),nS])
   have Bj:=tV hB6 (sU w.heap.size) #[k,(aZ l 0),(aZ l 1),(aZ l 2),(aZ l m),nS];skip
   generalize w6.setRow (w.heap.size+1) #[k,(aZ l 0),(aZ l 1),(aZ l 2),(aZ l m),nS]=w9 at EO Bj ⊢
   have a0:=EO.O.cell (j:=0) rfl;have a1:=EO.O.cell (j:=1) rfl;have a2:=EO.O.cell (j:=2) rfl;have a3:=EO.O.cell (j:=3) rfl;have a4:=EO.O.cell (j:=4) rfl;have a5:=EO.O.cell (j:=5) rfl;go_wp2_with fail;exact bV (v:=.tuple #[.agg #[k,(aZ l 0),(aZ l 1),(aZ l 2),(aZ l m),nS],.bool true]) (by simp[results,results37,go_sem,a0,a1,a2,a3,a4,a5]) rfl ⟨Bj,_,(jf9 k l),by rw[hact.O];rfl,⟨_,nO Value.agg (by rw[hml'.O,jf9]),Sl.nil⟩,jid hact.O jog.O⟩
  ·have hnb:((l.length:Int)==n)=false:=by simpa using hn
   have hne:op≠zx:=λe=>by rw[e]at hk;cases hk
   have f8:=λh=>hne (w8.1 h)
   have hact:=kind_none hk hn;clear hk hn hne w8 hkf;have hact:=ah hact;go_wp2_with (refine jP rfl 81 (.tmp 4) (.tmp 76) rfl (w.heap.size+1) NV rfl rfl 81 _ (hr1.alloc (.cells #[k,n] 101)) (by kernel_rfl) rfl (by simp[Value.oneCell']) ?_;refine bD ?_)
   unfold Hid;have EO:=ah (show iJ ((W1.alloc (.cells #[k,n] 101)).setRow (w.heap.size+1) NV) (w.heap.size+1) 81 [zI,zI,zI,zI,zI,nS]from iJ.row (hr1.alloc _) [zI,zI,zI,zI,zI,nS])
   have Bj:=tV (hB1.alloc hB1.size (.cells #[k,n] 101)) (sU w.heap.size) NV;skip
   generalize (W1.alloc (.cells #[k,n] 101)).setRow (w.heap.size+1) NV=w9 at EO Bj ⊢
   have a0:=EO.O.cell (j:=0) rfl;have a1:=EO.O.cell (j:=1) rfl;have a2:=EO.O.cell (j:=2) rfl;have a3:=EO.O.cell (j:=3) rfl;have a4:=EO.O.cell (j:=4) rfl;have a5:=EO.O.cell (j:=5) rfl;go_wp2_with fail;exact bV (v:=.tuple #[.agg NV,.bool false]) (by simp[results,results37,go_sem,a0,a1,a2,a3,a4,a5]) rfl ⟨Bj,_,⟨0,0,0,0,0,[]⟩,by rw[hact.O];rfl,⟨_,rfl,Sl.nil⟩,λy hy=>absurd (hact.O.symm.trans hy) (by simp)⟩
end
section
attribute [local go_sem] aV jF iY jI
def Bg(r:Option (List Int×Int))(w:World)(e:Ending)(w':World):Prop:=
 Below w w w'/\((r=none/\∃v',e=.returned (.tuple #[v',zI,.bool false]))\/(∃o c v',r=some (o,c)/\e=.returned (.tuple #[v',.int .i64 c,.bool true])/\(c=0->Sl iW w' w' v' o)))
theorem jb7(w:World)(v vs vl:Value)(p:dG)(s:aI)(op:List Nat)(l:List Int)(e1:op=sD)(hp:kK w w v p)(hv:kG w w vs s)(hl:Sl iW w w vl l)(h1:l.length=1)(hpz:fU p=0)(hsz:aO p s=0):
  Calls prog 50 #[v,vs,.string (eY op),vl] w (Bg (nD p s op l) w):=by
 have d1:(eY op).toList=[115,104,101,108,102]:=by rw[e1];exact tN _
 have hop':=ah e1;clear e1;obtain⟨A,c,rfl⟩:=hl.isSlice;have hA:=ah hl.at_;clear hl;have h1i:(l.length:Int)=1:=by omega
 obtain⟨ok0,lA,z0⟩:=hA.O.int (i:=0) (by omega)
 rw[fZ]at z0
 have hbn6:p.dP.length<=6:=by obtain⟨_,hc6,_,_⟩:=oI hpz;omega
 have hsn:=ah (gB.1 hsz).1;cases hib:lK p (aZ l 0)
 ·have hres:=ah (show nD p s op l=some ([],4)by
   rw[hop'.O];unfold nD;rw[aB ⟨rfl,h1⟩,au];intro hc;have:lK p (aZ l 0)=true:=dZ.2 (by unfold aZ;omega)
   rw[hib]at this
   cases this)
  have joK:=ah (show ∀(W:World) (v:Value),kK W W v p->Calls prog 80 #[v,(aZ l 0)] W λe w'=>e=.returned (.bool false)/\Below W W w' from λW v hW=>by
   have:=DX W v p (aZ l 0) hW (by omega)
   rwa [hib]at this)
  clear hib;obtain⟨Ab,cb,As,cs,rfl,hP',hBn,hSz,hlb,hls⟩:=o9 hp;obtain⟨A0,c0,A1,c1,A2,c2,A3,c3,A4,c4,A5,c5,A6,c6,rfl,hV,hN,hO,hH,hM,hI,hU,hX,hl0,hl1,hl2,hl3,hl4,hl5,Jb⟩:=lY hv;go_enter func50,ntmps50
  go_wp2_with fail;obtain⟨W0,hW0,hb0,kX,um,hsE,hK⟩:=uT w p s Ab cb As cs A0 c0 A1 c1 A2 c2 A3 c3 A4 c4 A5 c5 A6 c6;rw[hW0];clear hW0;obtain⟨⟨y0,y1⟩,x0,x1,x2,x3,x4,x5,x6,fB,fC⟩:=hK.O W0 (aj W0 W0);have z1:=(hb0.cell (p:=⟨iH A,l9 A,none⟩) lA).trans z0;have lA':iH A<W0.heap.size:=aJ lA hb0.size;have q1:=λo d os=>cZ (w:=W0) (b:=w.heap.size) fC o d os
  have q2:=λo d os=>cZ (w:=W0) (b:=w.heap.size+1) fB o d os
  have q3:=λo d os=>cZ (w:=W0) (b:=iH A) lA' o d os
  have hP2:=ah (λd os=>hP'.O _ (hb0.trans ((kH W0 d os).mono hb0.size)))
  clear z0;refine dO (by kernel_rfl) (by kernel_rfl) ?_
  repeat(go_big_quiet_step ((go_at_call 80;refine fV (joK.O _ _ (hP2.O _ _)))))
  refine wpQuiet_nil ?_
  intro W1 hw';have hb1:=dN hw';clear hw';have hB1:=fD hb0 hb1;clear q1 q2 q3 hP2 z1 lA';clear y0 y1 x0 x1 x2 x3 x4 x5 x6 fB fC;go_wp2_with fail;exact bV (v:=.tuple #[nS,.int .i64 4,.bool true]) (by simp[results,results50,go_sem]) rfl ⟨hB1,.inr ⟨_,_,_,hres.O,rfl,λh=>by cases h⟩⟩
 ·obtain⟨i1,i2⟩:=dZ.1 hib;obtain⟨b,hbb⟩:∃b:Nat,aZ l 0=(b:Int):=⟨(aZ l 0).toNat,by omega⟩
  have hbl:b<s.on.length:=by rw[hsn.O.sO];omega
  have hbi:(b:Int)<(s.on.length:Int):=by omega
  have hres:=ah (show nD p s op l=some (fO s.on b,0)by
   rw[hop'.O];unfold nD;have e:l.getD 0 0=(b:Int):=hbb;rw[aB ⟨rfl,h1⟩,aB (by rw[e];rw[hbb]at i2;omega),e]
   rfl)
  have joK:=ah (show ∀(W:World) (v:Value),kK W W v p->Calls prog 80 #[v,(b:Int)] W λe w'=>e=.returned (.bool true)/\Below W W w' from λW v hW=>by
   have:=DX W v p (aZ l 0) hW (by omega)
   rw[hib,hbb]at this
   exact this)
  rw[hbb]at z0 i1 i2
  clear hib hbb;obtain⟨Ab,cb,As,cs,rfl,hP',hBn,hSz,hlb,hls⟩:=o9 hp;obtain⟨A0,c0,A1,c1,A2,c2,A3,c3,A4,c4,A5,c5,A6,c6,rfl,hV,hN,hO,hH,hM,hI,hU,hX,hl0,hl1,hl2,hl3,hl4,hl5,Jb⟩:=lY hv;go_enter func50,ntmps50
  go_wp2_with fail;obtain⟨W0,hW0,hb0,kX,um,hsE,hK⟩:=uT w p s Ab cb As cs A0 c0 A1 c1 A2 c2 A3 c3 A4 c4 A5 c5 A6 c6;rw[hW0];clear hW0;obtain⟨⟨y0,y1⟩,x0,x1,x2,x3,x4,x5,x6,fB,fC⟩:=hK.O W0 (aj W0 W0);have z1:=(hb0.cell (p:=⟨iH A,l9 A,none⟩) lA).trans z0;have lA':iH A<W0.heap.size:=aJ lA hb0.size;have q1:=λo d os=>cZ (w:=W0) (b:=w.heap.size) fC o d os
  have q2:=λo d os=>cZ (w:=W0) (b:=w.heap.size+1) fB o d os
  have q3:=λo d os=>cZ (w:=W0) (b:=iH A) lA' o d os
  have hP2:=ah (λd os=>hP'.O _ (hb0.trans ((kH W0 d os).mono hb0.size)))
  clear z0;refine dO (by kernel_rfl) (by kernel_rfl) ?_
  repeat(go_big_quiet_step ((go_at_call 80;refine fV (joK.O _ _ (hP2.O _ _)))))
  refine wpQuiet_nil ?_
  intro W1 hw';have hb1:=dN hw';clear hw';have hB1:=fD hb0 hb1;clear q1 q2 q3 hP2 lA';clear y0 y1 x0 x1 x2 x3 x4 x5 x6 fB fC;obtain⟨⟨y0,y1⟩,x0,x1,x2,x3,x4,x5,x6,fB,fC⟩:=hK.O W1 (hb1);have z2:=(hb1.cell (p:=⟨iH A,l9 A,none⟩) (aJ lA hb0.size)).trans z1;obtain⟨Ar,cr,okr,lr,rr,hsr⟩:=(hN.O W1 hB1).row hbl;clear z1;go_wp2_with fail;go_quiet (fail)
  go_wp2_with fail;have hdn:=below_drewN (aj W1 W1) nq;exact bV (v:=.tuple #[.slice Ar (fO s.on b).length cr,zI,.bool true]) (by simp[results,results50,go_sem]) rfl ⟨below_drewN hB1 _,.inr ⟨_,_,_,hres.O,rfl,λ_=>hsr.up hdn hdn.size⟩⟩
theorem jiK{op:List Nat}{l:List Int}(hop:∀x∈op,x<256)(hno:(op=sD/\l.length≠1)\/(op=sF/\l.length≠1)\/(op=uJ/\l.length≠0)\/(op=uI/\l.length≠0)\/(op=CO/\l.length≠0)\/(op≠sD/\op≠sF/\op≠uJ/\op≠uI/\op≠CO)):
  ((eY op).toList=[115,104,101,108,102]/\¬(l.length:Int)=1)\/((eY op).toList=[111,114,100,101,114]/\¬(l.length:Int)=1)\/((eY op).toList=[104,111,108,100,115]/\¬(l.length:Int)=0)\/((eY op).toList=[109,111,118,101,115]/\¬(l.length:Int)=0)\/((eY op).toList=[111,112,101,110]/\¬(l.length:Int)=0)\/
   (¬(eY op).toList=[115,104,101,108,102]/\¬(eY op).toList=[111,114,100,101,114]/\¬(eY op).toList=[104,111,108,100,115]/\¬(eY op).toList=[109,111,118,101,115]/\¬(eY op).toList=[111,112,101,110]):=by
 have w1:(eY op).toList=[115,104,101,108,102]↔op=sD:=xO (W:=sD) hop (by decide)
 have w2:(eY op).toList=[111,114,100,101,114]↔op=sF:=xO (W:=sF) hop (by decide)
 have w3:(eY op).toList=[104,111,108,100,115]↔op=uJ:=xO (W:=uJ) hop (by decide)
 have w4:(eY op).toList=[109,111,118,101,115]↔op=uI:=xO (W:=uI) hop (by decide)
 have w5:(eY op).toList=[111,112,101,110]↔op=CO:=xO (W:=CO) hop (by decide)
 rcases hno with⟨a,b⟩|⟨a,b⟩|⟨a,b⟩|⟨a,b⟩|⟨a,b⟩|⟨a,b,c,d,e⟩
 ·exact .inl ⟨w1.2 a,by omega⟩
 ·exact .inr (.inl ⟨w2.2 a,by omega⟩)
 ·exact .inr (.inr (.inl ⟨w3.2 a,by omega⟩))
 ·exact .inr (.inr (.inr (.inl ⟨w4.2 a,by omega⟩)))
 ·exact .inr (.inr (.inr (.inr (.inl ⟨w5.2 a,by omega⟩))))
 ·exact .inr (.inr (.inr (.inr (.inr ⟨λh=>a (w1.1 h),λh=>b (w2.1 h),λh=>c (w3.1 h),λh=>d (w4.1 h),λh=>e (w5.1 h)⟩))))
theorem jee(w:World)(v vs vl:Value)(p:dG)(s:aI)(op:List Nat)(l:List Int)(hp:kK w w v p)(hv:kG w w vs s)(hop:∀x∈op,x<256)(hl:Sl iW w w vl l)
  (hno:(op=sD/\l.length≠1)\/(op=sF/\l.length≠1)\/(op=uJ/\l.length≠0)\/(op=uI/\l.length≠0)\/(op=CO/\l.length≠0)\/(op≠sD/\op≠sF/\op≠uJ/\op≠uI/\op≠CO)):
  Calls prog 50 #[v,vs,.string (eY op),vl] w (Bg none w):=by
 have key:=jiK hop hno;obtain⟨A,c,rfl⟩:=hl.isSlice;clear hl hop hno;rcases key with⟨d,hi⟩|⟨d,hi⟩|⟨d,hi⟩|⟨d,hi⟩|⟨d,hi⟩|⟨f1,f2,f3,f4,f5⟩
 all_goals
  obtain⟨Ab,cb,As,cs,rfl,hP',hBn,hSz,hlb,hls⟩:=o9 hp;obtain⟨A0,c0,A1,c1,A2,c2,A3,c3,A4,c4,A5,c5,A6,c6,rfl,hV,hN,hO,hH,hM,hI,hU,hX,hl0,hl1,hl2,hl3,hl4,hl5,Jb⟩:=lY hv;go_enter func50,ntmps50
  go_wp2_with fail;obtain⟨W0,hW0,hb0,kX,um,hsE,hK⟩:=uT w p s Ab cb As cs A0 c0 A1 c1 A2 c2 A3 c3 A4 c4 A5 c5 A6 c6;rw[hW0];clear hW0;exact bV (v:=.tuple #[nS,zI,.bool false]) (by simp[results,results50,go_sem]) rfl ⟨hb0,.inl ⟨rfl,_,rfl⟩⟩
end
section
attribute [local go_sem] aV jF iY jI
theorem JG{α:Type}(F:α->List Int)(l:List α)(d:α){k:Nat}(hk:k<l.length):(l.take (k+1)).flatMap F=(l.take k).flatMap F++F (l.getD k d):=by
 rw[bM hk,gQ];simp[hk]
theorem A8{α:Type}(F:α->List Int){n:Nat}(hF:∀x,(F x).length=n)(l:List α):(l.flatMap F).length=l.length*n:=by
 induction l with
 |nil=>simp
 |cons a r ih=>rw[lI,aX,ih,hF,bP,Nat.succ_mul,Nat.add_comm]
theorem jca(w:World)(v vs vl:Value)(p:dG)(s:aI)(op:List Nat)(l:List Int)(e1:op=uJ)(hp:kK w w v p)(hv:kG w w vs s)(hl:Sl iW w w vl l)(h0:l.length=0)(hsz:aO p s=0):
  Calls prog 50 #[v,vs,.string (eY op),vl] w (Bg (nD p s op l) w):=by
 have d1:(eY op).toList=[104,111,108,100,115]:=by rw[e1];exact tN _
 have h0i:(l.length:Int)=0:=by omega
 have hres:=ah (show nD p s op l=some (s.aA.flatMap (λx=>[x.aC,x.aK,x.bin,x.n]),0)by
  rw[e1];unfold nD;simp[h0,sD,sF,uJ,uI])
 obtain⟨A,c,rfl⟩:=hl.isSlice;have hn:=qH (gB.1 hsz).1.aA;clear e1 hl h0 hsz;obtain⟨Ab,cb,As,cs,rfl,hP',hBn,hSz,hlb,hls⟩:=o9 hp;obtain⟨A0,c0,A1,c1,A2,c2,A3,c3,A4,c4,A5,c5,A6,c6,rfl,hV,hN,hO,hH,hM,hI,hU,hX,hl0,hl1,hl2,hl3,hl4,hl5,Jb⟩:=lY hv;go_enter func50,ntmps50
 go_wp2_with fail;obtain⟨W0,hW0,hb0,kX,um,hsE,hK⟩:=uT w p s Ab cb As cs A0 c0 A1 c1 A2 c2 A3 c3 A4 c4 A5 c5 A6 c6;rw[hW0];clear hW0;have hle:=hb0.size;go_loopw[11,15] (λv i wr=>∃k:Nat,k<=s.aA.length/\i=.int .i64 (k:Nat)/\Own iW 1 3 wr W0.heap.size v ((s.aA.take k).flatMap (λx=>[x.aC,x.aK,x.bin,x.n]))/\Below W0.heap.size W0 wr) (λ_ i _=>s.aA.length - (RowKit.intOf i).toNat)
 case atStart=>exact⟨0,aN _,rfl,Own.nil,aj _ _⟩
 case round=>
  obtain⟨k,hk,rfl,ho,h0r⟩:=hrel;have hBr:=fD hb0 h0r;obtain⟨⟨y0,y1⟩,x0,x1,x2,x3,x4,x5,x6,fB,fC⟩:=hK.O wr (h0r);obtain⟨Ao,co,TM⟩:=ho.isSlice;have hlk:((s.aA.take k).flatMap (λx=>[x.aC,x.aK,x.bin,x.n])).length=k*4:=by rw[A8 (n:=4) _ (λ_=>rfl),bC];congr 1;omega
  subst TM;rw[hlk]at ho ⊢
  have ho':=ah ho;clear ho;by_cases hlt:k<s.aA.length
  ·obtain⟨okh,lh,e0,e1,e2,e3⟩:=(hH.O wr hBr).at_.hold hlt;have hlt':=ah (JG (λx:eX=>[x.aC,x.aK,x.bin,x.n]) s.aA Pn hlt)
   have hbs:=h0r.size;go_wp2_with (at_builtin;refine bD ?_)
   unfold Hid;have Yt:=((Own.lit (enc:=iW) (size:=1) (aT:=wr.heap.size) (wr.alloc (nC (hold s.aA k))) 3 (Vh (hold s.aA k)) [(hold s.aA k).aC,(hold s.aA k).aK,(hold s.aA k).bin,(hold s.aA k).n] (by simp) (by simp) (λ_=>rfl) rfl).sl (by simp)).at_
   simp only[dK]at Yt
   have O4:=ah Yt;clear Yt;refine(yH _ rfl (.tmp 120) (.tmp 129) 23 3 rfl W0.heap.size _ 1 8 underlying23 zS rfl (by decide) (by decide) _ _ [(hold s.aA k).aC,(hold s.aA k).aK,(hold s.aA k).bin,(hold s.aA k).n] rfl ((ho'.O.alloc _).alloc _) (some ⟨wr.heap.size+1,0,none⟩) 4 _ rfl (λ_=>rfl) O4.O (λy=>Dv y) (by rw[hlk];simp;omega) (by simp only[dK];omega) (λv9 w9 C9 jg Oe AA=>?_))
   have Bj:=ah (((h0r.alloc h0r.size _).alloc (by simp only[dK];omega) _).trans AA)
   have Gs:=ah C9;clear C9 jg Oe AA ho' O4 e0 e1 e2 e3;clear y0 y1 x0 x1 x2 x3 x4 x5 x6 fB fC;go_wp2_with fail;go_roundw
   case rel=>exact⟨k+1,by omega,by go_num,by rw[hlt'.O];exact Gs.O,Bj.O⟩
   case measure=>simp[dY];omega
  ·obtain rfl:k=s.aA.length:=by omega
   rw[dR]at ho'
   go_wp2_with fail;exact bV (v:=.tuple #[.slice Ao (s.aA.length*4) co,zI,.bool true]) (by simp[results,results50,go_sem]) rfl ⟨hBr,.inr ⟨_,_,_,hres.O,rfl,λ_=>(ho'.O.sl (by rw[A8 (n:=4) _ (λ_=>rfl)];omega))⟩⟩
theorem jb9(w:World)(v vs vl:Value)(p:dG)(s:aI)(op:List Nat)(l:List Int)(e1:op=uI)(hp:kK w w v p)(hv:kG w w vs s)(hl:Sl iW w w vl l)(h0:l.length=0)(hsz:aO p s=0):
  Calls prog 50 #[v,vs,.string (eY op),vl] w (Bg (nD p s op l) w):=by
 have d1:(eY op).toList=[109,111,118,101,115]:=by rw[e1];exact tN _
 have h0i:(l.length:Int)=0:=by omega
 have hres:=ah (show nD p s op l=some (s.aF.flatMap (λx=>[x.dW,x.src,x.dst,x.n]),0)by
  rw[e1];unfold nD;simp[h0,sD,sF,uJ,uI])
 obtain⟨A,c,rfl⟩:=hl.isSlice;have hn:=(gB.1 hsz).1.uf;clear e1 hl h0 hsz;obtain⟨Ab,cb,As,cs,rfl,hP',hBn,hSz,hlb,hls⟩:=o9 hp;obtain⟨A0,c0,A1,c1,A2,c2,A3,c3,A4,c4,A5,c5,A6,c6,rfl,hV,hN,hO,hH,hM,hI,hU,hX,hl0,hl1,hl2,hl3,hl4,hl5,Jb⟩:=lY hv;go_enter func50,ntmps50
 go_wp2_with fail;obtain⟨W0,hW0,hb0,kX,um,hsE,hK⟩:=uT w p s Ab cb As cs A0 c0 A1 c1 A2 c2 A3 c3 A4 c4 A5 c5 A6 c6;rw[hW0];clear hW0;have hle:=hb0.size;go_loopw[11,17] (λv i wr=>∃k:Nat,k<=s.aF.length/\i=.int .i64 (k:Nat)/\Own iW 1 3 wr W0.heap.size v ((s.aF.take k).flatMap (λx=>[x.dW,x.src,x.dst,x.n]))/\Below W0.heap.size W0 wr) (λ_ i _=>s.aF.length - (RowKit.intOf i).toNat)
 case atStart=>exact⟨0,aN _,rfl,Own.nil,aj _ _⟩
 case round=>
  obtain⟨k,hk,rfl,ho,h0r⟩:=hrel;have hBr:=fD hb0 h0r;obtain⟨⟨y0,y1⟩,x0,x1,x2,x3,x4,x5,x6,fB,fC⟩:=hK.O wr (h0r);obtain⟨Ao,co,TM⟩:=ho.isSlice;have hlk:((s.aF.take k).flatMap (λx=>[x.dW,x.src,x.dst,x.n])).length=k*4:=by rw[A8 (n:=4) _ (λ_=>rfl),bC];congr 1;omega
  subst TM;rw[hlk]at ho ⊢
  have ho':=ah ho;clear ho;by_cases hlt:k<s.aF.length
  ·obtain⟨okh,lh,e0,e1,e2,e3⟩:=(hM.O wr hBr).at_.move hlt;have hlt':=ah (JG (λx:Move=>[x.dW,x.src,x.dst,x.n]) s.aF Kv hlt)
   have hbs:=h0r.size;go_wp2_with (at_builtin;refine bD ?_)
   unfold Hid;have Yt:=((Own.lit (enc:=iW) (size:=1) (aT:=wr.heap.size) (wr.alloc (IE (bZ s.aF k))) 3 (jdR (bZ s.aF k)) [(bZ s.aF k).dW,(bZ s.aF k).src,(bZ s.aF k).dst,(bZ s.aF k).n] (by simp) (by simp) (λ_=>rfl) rfl).sl (by simp)).at_
   simp only[dK]at Yt
   have O4:=ah Yt;clear Yt;refine(yH _ rfl (.tmp 150) (.tmp 159) 23 3 rfl W0.heap.size _ 1 8 underlying23 zS rfl (by decide) (by decide) _ _ [(bZ s.aF k).dW,(bZ s.aF k).src,(bZ s.aF k).dst,(bZ s.aF k).n] rfl ((ho'.O.alloc _).alloc _) (some ⟨wr.heap.size+1,0,none⟩) 4 _ rfl (λ_=>rfl) O4.O (λy=>Dv y) (by rw[hlk];simp;omega) (by simp only[dK];omega) (λv9 w9 C9 jg Oe AA=>?_))
   have Bj:=ah (((h0r.alloc h0r.size _).alloc (by simp only[dK];omega) _).trans AA)
   have Gs:=ah C9;clear C9 jg Oe AA ho' O4 e0 e1 e2 e3;clear y0 y1 x0 x1 x2 x3 x4 x5 x6 fB fC;go_wp2_with fail;go_roundw
   case rel=>exact⟨k+1,by omega,by go_num,by rw[hlt'.O];exact Gs.O,Bj.O⟩
   case measure=>simp[dY];omega
  ·obtain rfl:k=s.aF.length:=by omega
   rw[dR]at ho'
   go_wp2_with fail;exact bV (v:=.tuple #[.slice Ao (s.aF.length*4) co,zI,.bool true]) (by simp[results,results50,go_sem]) rfl ⟨hBr,.inr ⟨_,_,_,hres.O,rfl,λ_=>(ho'.O.sl (by rw[A8 (n:=4) _ (λ_=>rfl)];omega))⟩⟩
end
end Wh
