/- Texts of the claim, joined. -/
import Derived.Great.BuildSlice
import Derived.Test.YtniaecolikhmeaaGreatDoorQ40
set_option maxHeartbeats 20000000
set_option maxRecDepth 100000
set_option linter.all false
namespace Wh
open Go Go.RowKit Go.Shelf Go.Proofs Tryz
section
attribute [local go_sem] aV jF iY jI
attribute [local go_sem] Oper.semAt_some
theorem Qn{α:Type}{F:Fence}{n:Nat}{P:Program}{g:Operand}{ps:Array Tmp}{assign body:Code}{Q:Exit->Act->World->Prop}{a:Act}{w:World}
  (hro:F.round=none) (h1:1<=n) {gf:Nat} {lb:Array Value} (hg:a.eval g=.func (.func gf) #[] lb) (hFg:F.fn gf) (eg:∀args w,(callFunc gf args).run P w=.ok (.enter gf args) w)
  {encs:α->Array Value} (hps:∀x,(encs x).size=ps.size)
  (T:List α->World->Prop) (hT:OwnFrom w T) (h0:T [] w) (I:List α×α->World->Prop) (hI:OwnFrom w I) (S:List α->Prop)
  (hseq:∀(l:Nat) (R:World->Prop) (W:World),Below w w W->(∀V V',R V->Step (·<w.heap.size) V V'->R V')->
   (∀pre x V,I (pre,x) V->R V->YieldAt F (n - 1 - 1) P l (encs x) V λe V'=>e=.returned (.bool true)/\T (pre++[x]) V'/\R V')->T [] W->R W->
   CallsIn F (n - 1) P gf (#[.func (.yield l) #[] #[]]++lb) W λe V=>(∃v,e=.returned v)/\∃xs,S xs/\T xs V/\R V)
  (Ax:α->Act->World->Prop) (hAx:∀x a',OwnFrom w (λ(_:Unit) W=>Ax x a' W))
  (wV:∀(l:Nat) (pre:List α) (x:α) (W:World) (K:Act->World->Prop),I (pre,x) W->(∀a' W',KeepsFrom w W W'->I (pre,x) W'->Ax x a' W'->K a' W')->
   assign.wpIn (F.inRound l) (n - 1 - 1) P (Exit.then K (λ_ _ _=>False)) {tmps:=(ps.zip (encs x)).foldl (λt (p,v)=>t.setIfInBounds p v) a.tmps,defers:=[]} W)
  (hbody:∀(l:Nat) (pre:List α) (x:α) (a':Act) (W:World),w.heap.size<=l->I (pre,x) W->Ax x a' W->
   body.wpIn (F.inRound l) (n - 1 - 1) P (Exit.then (λ_ W'=>KeepsFrom w W W'/\T (pre++[x]) W') (λ_ _ _=>False)) a' W)
  (Ei:∀(D:Nat) (xs:List α) (W:World),w.heap.size<=D->S xs->T xs W->W.heap[D]?=some (.deferred (some []))->Q .normal {a with defers:={target:=.collected D,args:=#[]}::a.defers} W):
  (Code.rangeFunc g ps assign body).wpIn F n P Q a w:=by
 refine wpIn_rangeFunc λfn hfn=>?_
 rw[hro];obtain⟨rec,hrec⟩:∃rec:LoopState->Loop,rec=λst=>{state:=st,pending:=none,fn,tmps:=a.tmps,params:=ps,assign,body,defers:=w.heap.size}:=⟨_,rfl⟩
 have hba:Below w w ((w.alloc (.deferred (some []))).alloc (.loop (rec .ready))):=((aj _ w).alloc (ay _) _).alloc (by simp) _
 have hL:((w.alloc (.deferred (some []))).alloc (.loop (rec .ready))).heap[w.heap.size+1]?=some (.loop (rec .ready)):=by
  have:=World.alloc_heap_new (w.alloc (.deferred (some []))) (.loop (rec .ready));rwa [dK]at this
 have hD:((w.alloc (.deferred (some []))).alloc (.loop (rec .ready))).heap[w.heap.size]?=some (.deferred (some [])):=(oO _ _ _ (by simp)).trans (World.alloc_heap_new w _)
 have hi0:T [] ((w.alloc (.deferred (some []))).alloc (.loop (rec .ready))):=hT.alloc _ (hT.alloc _ h0);have hent:=run_enterLoop_outer (P:=P) (w:=w) fn a.tmps ps assign body;have hsz:((w.alloc (.deferred (some []))).alloc (.loop (rec .ready))).heap.size=w.heap.size+2:=by simp
 have jcX:(Instr.enterLoop fn a.tmps ps assign body none).run P w=.ok (w.heap.size+1,[{target:=.collected w.heap.size,args:=#[]}]) ((w.alloc (.deferred (some []))).alloc (.loop (rec .ready))):=by
  rw[hent,hrec]
 clear hent;generalize (w.alloc (.deferred (some []))).alloc (.loop (rec .ready))=W1 at hba hL hD hi0 hsz jcX
 refine⟨w.heap.size+1,[{target:=.collected w.heap.size,args:=#[]}],W1,{target:=.fn (.func gf) lb,args:=#[.func (.yield (w.heap.size+1)) #[] #[]]},W1,gf,#[.func (.yield (w.heap.size+1)) #[] #[]]++lb,W1,jcX,?_,?_,?_,λ_=>h1,?_⟩
 ·simp only[resolve,hg];simp[go_sem]
 ·intro f' hf';simp[Target.leads]at hf'
  subst hf';exact hFg
 ·simp[invoke,go_sem,eg]
 ·refine(hseq (w.heap.size+1) (λW=>W.heap[w.heap.size+1]?=some (.loop (rec .ready))/\W.heap[w.heap.size]?=some (.deferred (some []))) W1 hba (λV V' h hs=>⟨hs.heap h.1 (by omega),hs.heap h.2 (by omega)⟩) ?_ hi0 ⟨hL,hD⟩).mono ?_
  ·rintro pre x W hi ⟨hl,hk⟩;have hlt:w.heap.size+1<W.heap.size:=(bI.1 hl).1
   have hy:=run_yield (P:=P) (args:=encs x) hl (by rw[hrec];exact hps x)
   rw[hrec]at hy
   refine⟨fn,_,assign,body,hy,roundIn_of_wpIn hfn (wV _ pre x W _ hi ?_)⟩
   clear hy;intro a' Wa hkf hia hax;have hla:=hkf.same _ _ (by omega) hl rfl
   have hka:=hkf.same _ _ (ay _) hk rfl;refine⟨_,run_beginRound hla (by rw[hrec]),?_⟩
   have joz:w.heap.size+1<Wa.heap.size:=(bI.1 hla).1
   have hl2:(Wa.putObj (w.heap.size+1) (.loop {rec .ready with state:=.busy})).heap[w.heap.size+1]?=some (.loop {rec .ready with state:=.busy}):=World.putObj_heap_same joz
   have hk2:(Wa.putObj (w.heap.size+1) (.loop {rec .ready with state:=.busy})).heap[w.heap.size]?=some (.deferred (some [])):=(World.putObj_heap_other (by omega)).trans hka
   refine wpIn_mono (hbody _ pre x a' _ (by omega) (hI.putObj (s:=(pre,x)) _ hia (by omega) hla rfl) ((hAx x a').putObj (s:=()) _ hax (by omega) hla rfl)) ?_
   rintro e a3 W3 hp;cases e with
   |normal=>
    obtain⟨hk3,hi3⟩:=hp;have hl3:=hk3.same _ _ (by omega) hl2 rfl
    have hd3:=hk3.same _ _ (ay _) hk2 rfl;have hlt3:w.heap.size+1<W3.heap.size:=(bI.1 hl3).1
    have hend:=run_endRound (P:=P) none hl3;refine⟨_,_,hend,rfl,hT.putObj _ hi3 (by omega) hl3 rfl,?_,?_⟩
    ·have:=World.putObj_heap_same (o:=Obj.loop {({rec .ready with state:=.busy}:Loop)with state:=.ready,pending:=none}) hlt3
     rw[hrec]at this ⊢
     exact this
    ·exact(World.putObj_heap_other (by omega)).trans hd3
   |ret=>exact hp.elim
   |exit id=>exact hp.elim
   |goto t=>exact hp.elim
   |panic ch=>exact hp.elim
   |outgrown=>exact hp.elim
  ·rintro e W2 ⟨⟨v,rfl⟩,xs,hS,hi,hl,hk⟩;have hend:=run_endLoop (P:=P) hl (by rw[hrec];simp)
   refine⟨none,_,by rw[hrec]at hend;exact hend,Ei _ xs _ (ay _) hS (hT.putObj _ hi (by omega) hl rfl) ((World.putObj_heap_other (by omega)).trans hk)⟩
def jfE(b:Nat)(w:World):Nat:=match w.cell? b with
 |some (.string s)=>s.size
 |_=>0
theorem jae{b:Nat}{w:World}{t:List Nat}(h:iJ w b 9 [.string (eY t)]):jfE b w=t.length:=by
 unfold jfE;rw[h.cell (j:=0) rfl];exact pK t
def joinL(ls:List (List Nat)):List Nat:=ls.flatMap (·++[10])
theorem Xo(ls:List (List Nat))(k:Nat):(joinL (ls.drop k)).length<=(joinL ls).length:=by
 have:joinL ls=joinL (ls.take k)++joinL (ls.drop k):=by
  unfold joinL;rw[<- gQ,jW]
 rw[this,aX];omega
theorem UR:∀(a r:List Nat),(∀n∈a,n<256/\n≠10)->Lib.indexByte (bytes (a++10::r)) 10=(a.length:Int)
 |[],r,_=>rfl
 |x::a,r,h=>by
  obtain⟨h1,h2⟩:=h x (bW ..);have ih:=UR a r (λn hn=>h n (aY _ hn))
  have e:bytes (x::a++10::r)=UInt8.ofNat x::bytes (a++10::r):=rfl;have hne:(UInt8.ofNat x==10)=false:=by
   rw[kL];intro he;have:=nO UInt8.toNat he;rw[UInt8.toNat_ofNat']at this
   rw[AB (by simpa using h1)]at this
   exact h2 this
  rw[e,Lib.indexByte,hne,ih];simp
theorem jiR(n:Nat)(t:ByteArray)(w:World):
  CallsIn Fence.wide n prog 11 #[.string t] w λe w'=>e=.returned (.func (.func 30) #[] #[.pointer (some w)])/\w'=w.alloc (.cells #[.string t] 9):=by
 refine nT func11 rfl trivial ?_ rfl
 simp only[ntmps11,iR,bP,dQ,Nat.reduceAdd,Nat.reduceSub,gW,iG,jh,iM,fJ,gG];gi_wp2
 go_ret
 exact⟨rfl,rfl⟩
theorem jgS(n l Bs:Nat)(ls:List (List Nat))(hn:1<=n)(hls:∀x∈ls,∀n∈x,n<256/\n≠10)(lZ:(joinL ls).length<=1000000)(T I:Nat->World->Prop)(R:World->Prop)(W:World)
  (hT:∀k V,T k V->iJ V Bs 9 [.string (eY (joinL (ls.drop k)))]) (hI:∀k V V',k<ls.length->T k V->Step (·=Bs) V V'->iJ V' Bs 9 [.string (eY (joinL (ls.drop (k+1))))]->I k V')
  (hR:∀V V',R V->Step (·=Bs) V V'->R V')
  (hY:∀k V,(hk:k<ls.length)->I k V->R V->YieldAt Fence.wide (n - 1) prog l #[.string (eY (ls[k]++[10]))] V λe V'=>e=.returned (.bool true)/\T (k+1) V'/\R V') (h0:T 0 W) (hR0:R W):
  CallsIn Fence.wide n prog 30 (#[.func (.yield l) #[] #[]]++#[.pointer (some Bs)]) W λe V=>(∃v,e=.returned v)/\T ls.length V/\R V:=by
 change CallsIn Fence.wide n prog _ #[.func (.yield l) #[] #[],.pointer (some Bs)] W _;refine nT func30 rfl trivial ?_ rfl
 simp only[ntmps30,iR,bP,dQ,Nat.reduceAdd,Nat.reduceSub,gW,iG,jh,iM,fJ,gG];gi_wp2
 gi_loopw [] (λwr=>∃k,k<=ls.length/\T k wr/\R wr) (λwr=>jfE Bs wr)
 case atStart=>exact⟨0,aN _,h0,hR0⟩
 case round=>
  clear h0 hR0;obtain⟨k,hk,hTr,hRr⟩:=hrel;have hbx:=hT _ _ hTr;have EP:=ah hbx;have b0:=hbx.cell (j:=0) rfl;have hll:=Xo ls k;have hsz:=pK (joinL (ls.drop k));have lBs:=hbx.lt;by_cases hlt:k<ls.length
  ·obtain⟨x,hx⟩:∃x,ls[k]=x:=⟨_,rfl⟩;have hjd:joinL (ls.drop k)=x++10::joinL (ls.drop (k+1)):=by rw[jU hlt,hx];simp[joinL]
   have AX:=hls x (by rw[<- hx];exact dh hlt)
   have hix:Lib.indexByte (eY (joinL (ls.drop k))).data.toList (((10:Int)).toNat.toUInt8)=(x.length:Int):=by
    rw[Ii,hjd];exact UR _ _ AX
   obtain⟨r,hr⟩:∃r,joinL (ls.drop k)=r:=⟨_,rfl⟩;have hrl:r.length=x.length+1+(joinL (ls.drop (k+1))).length:=by rw[<- hr,hjd];simp;omega
   rw[hr]at hix hsz b0 hll
   have wU:(0:Int)<(r.length:Int):=by omega
   have hxr:(x.length:Int)+1<=(r.length:Int):=by omega
   have hx0:(0:Int)<=(x.length:Int):=by omega
   have hx1:¬((x.length:Int)+1<0):=by omega
   have hx2:(0:Int)<=(x.length:Int)+1:=by omega
   have hwx:IntKind.i64.wrap ((x.length:Int)+1)=(x.length:Int)+1:=aP _ (by omega)
   have joH:r=(x++[10])++joinL (ls.drop (k+1)):=by rw[<- hr,hjd];simp
   have e1:(eY r).extract 0 (x.length+1)=eY (x++[10]):=by rw[PL,dH,joH,List.take_left' (by simp)]
   have e2:(eY r).extract (x.length+1) r.length=eY (joinL (ls.drop (k+1))):=by rw[PL,dR,joH,List.drop_left' (by simp)]
   have jeP:=ah (show(joinL (ls.drop k)).length=x.length+1+(joinL (ls.drop (k+1))).length by rw[hr];exact hrl)
   clear hrl hjd joH hr;gi_wp2
   refine⟨trivial,(iy.2 (Wh.strings_IndexByte _ _ _)).mono ?_⟩
   rintro e w2 ⟨rfl,rfl⟩;rw[hix];gi_wp2
   refine qY.2 ?_
   refine EU 9 [λg' _=>g' 12=.string (eY r),λg' _=>g' 13=x.length,λg' _=>g' 14=.int .i64 ((x.length:Int)+1),λg' _=>g' 15=.string (eY (x++[10])),λg' _=>g' 16=.string (eY r),λg' _=>g' 17=x.length,λg' _=>g' 18=.int .i64 ((x.length:Int)+1),λg' _=>g' 19=.string (eY (joinL (ls.drop (k+1)))),λg' _=>g' 3=.string (eY (x++[10]))] (by kernel_rfl) (by kernel_rfl) rfl (by kernel_rfl) ?jq6 (λf w5 h5 hR5=>?jq7)
   case jq6=>
    simp only[aG,aS];have hxn:((x.length:Int)+1).toNat=x.length+1:=by omega
    refine bT.v (λgq w' hb ho hd=>?_) ?_
    ·have q1:=ho 1 rfl;have q2:=(hb.cell (p:=Bs) lBs).trans b0;go_simp
    refine bT.v (λgq w' hb ho hd=>?_) ?_
    ·have q1:=ho 4 rfl;go_simp
    refine bT.v (λgq w' hb ho hd=>?_) ?_
    ·have q1:_=_:=hd.d 1;go_simp
    refine bT.v (λgq w' hb ho hd=>?_) ?_
    ·have q1:_=_:=hd.d 0;have q2:_=_:=hd.d 2;go_simp
    refine bT.v (λgq w' hb ho hd=>?_) ?_
    ·have q1:=ho 1 rfl;have q2:=(hb.cell (p:=Bs) lBs).trans b0;go_simp
    refine bT.v (λgq w' hb ho hd=>?_) ?_
    ·have q1:=ho 4 rfl;go_simp
    refine bT.v (λgq w' hb ho hd=>?_) ?_
    ·have q1:_=_:=hd.d 5;go_simp
    refine bT.v (λgq w' hb ho hd=>?_) ?_
    ·have q1:_=_:=hd.d 4;have q2:_=_:=hd.d 6;go_simp
    refine bT.v (λgq w' hb ho hd=>?_) ?_
    ·have q1:_=_:=hd.d 3;go_simp
    exact bT.nil
   case jq7=>
    obtain⟨r12,r13,TK,r15,r16,WM,r18,r19,r3,_⟩:=hR5;simp only[kP,qJ,aG,aS,bU,dH,bY,cO,dA,dL,aQ,bG,bH,r12,r13,TK,r15,r16,WM,r18,r19,r3];clear r12 r13 TK r15 r16 WM r18 r19 r3;have hb5:=EP.O.below h5 lBs;have hb6:=ah (hb5.row [.string (eY (joinL (ls.drop (k+1))))]);have hst:=ah ((Step.of_below h5).trans (Step.nG (ks:=(·=Bs)) (wL w5 Bs #[.string (eY (joinL (ls.drop (k+1))))]) (λq hq=>by injection hq with hq;exact hq.symm)))
    refine wpList_store_one rfl 9 (.tmp 1) (.tmp 19) rfl Bs rfl rfl 9 _ hb5 (by kernel_rfl) ?_
    change wpList _ _ _ _ _ (w5.setRow Bs #[.string (eY (joinL (ls.drop (k+1))))]);generalize w5.setRow Bs #[.string (eY (joinL (ls.drop (k+1))))]=w6 at hb6 hst ⊢
    refine eP ?_
    have ZQ:=hI _ _ _ hlt hTr hst.O hb6.O;have hR6:=hR _ _ hRr hst.O;obtain⟨fn,tmps,assign,body,hy,hRd⟩:=hY k w6 hlt ZQ hR6;rw[hx]at hy
    clear h5 hbx b0 AX hb5 e1 e2 hwx;gi_wp2
    refine hRd.mono ?_
    rintro e W3 ⟨rfl,hT3,hR3⟩;gi_wp2
    go_roundw
    case rel=>exact⟨k+1,by omega,hT3,hR3⟩
    case measure=>
     have q1:=jae (hT _ _ hT3);have q2:=jae EP.O;have q3:=jeP.O;rw[q1,q2];omega
  ·obtain rfl:k=ls.length:=by omega
   have hnil:joinL (ls.drop ls.length)=[]:=by simp[joinL]
   rw[hnil]at b0 hsz
   gi_wp2
   go_end0
   exact⟨⟨_,rfl⟩,hTr,hRr⟩
end
section
def jdT(W W':World):Prop:=∀(k:Nat) (c:Array Value) (t:TypeId) (fz:Nat×Nat),W.heap[k]?=some (.cells c t fz)->t≠9->W'.heap[k]?=some (.cells c t fz)
def jnF(W W':World):Prop:=∀(k:Nat) (c:Array Value) (t:TypeId),W.heap[k]?=some (.cells c t (0,0))->t≠9->t≠5->t≠48->t≠42->W'.heap[k]?=some (.cells c t (0,0))
theorem Own.E5{α:Type}{enc:α->List Value}{size:Nat}{e:TypeId}{w w':World}{aT:Nat}{v:Value}{l:List α}(h:Own enc size e w aT v l)(hk:jnF w w')(h1:e≠9/\e≠5/\e≠48/\e≠42):Own enc size e w' aT v l:=by
 refine⟨h.1,?_⟩
 rcases h.2 with hn|⟨g,cap,cur,rfl,hbg,hg,rest⟩
 ·exact .inl hn
 ·exact .inr ⟨g,cap,cur,rfl,hbg,hk _ _ _ hg h1.1 h1.2.1 h1.2.2.1 h1.2.2.2,rest⟩
theorem zn.E5{w w':World}{aT:Nat}{V:SV}{p:dG}{s:aI}(h:zn aT V p s w)(hk:jnF w w'):zn aT V p s w':=by
 have d1:(23:TypeId)≠9/\(23:TypeId)≠5/\(23:TypeId)≠48/\(23:TypeId)≠42:=by decide
 have d2:(3:TypeId)≠9/\(3:TypeId)≠5/\(3:TypeId)≠48/\(3:TypeId)≠42:=by decide
 rcases h with⟨h,hx⟩|⟨h,hx⟩
 ·exact .inl ⟨⟨h.on.E5 hk d1,h.rlen,λb hb=>(h.row b hb).E5 hk d2,h.ak.E5 hk (by decide),h.llen,λo ho=>(h.aK o ho).E5 hk (by decide),h.aA.E5 hk (by decide),h.aF.E5 hk (by decide),h.jf.E5 hk d2,h.O.E5 hk d2,h.dB.E5 hk d2,h.apart,h.yT⟩,hx⟩
 ·exact .inr ⟨⟨h.on.E5 hk d1,h.rlen,λb hb=>(h.row b hb).E5 hk d2,h.jf.E5 hk d2,h.O.E5 hk d2,h.dB.E5 hk d2,h.WY,h.WX,h.UK⟩,hx⟩
theorem TD{B b:Nat}{bs:List Value}{W W':World}(h:Lib.IsBuilderF 48 5 B b bs W)(hk:∀(k:Nat) (c:Array Value) (t:TypeId) (fz:Nat×Nat),W.heap[k]?=some (.cells c t fz)->t=48\/t=5->W'.heap[k]?=some (.cells c t fz)):Lib.IsBuilderF 48 5 B b bs W':=by
 have key:∀p,Lib.BuilderAtF 48 5 B b p bs W->Lib.BuilderAtF 48 5 B b p bs W':=λp ⟨h1,v,h2,h3,h4⟩=>by
  refine⟨h1,v,hk _ _ _ _ h2 (.inl rfl),⟨h3.1,?_⟩,h4⟩
  rcases h3.2 with hn|⟨g,cap,cur,fz,e,hbg,hg,rest⟩
  ·exact .inl hn
  ·exact .inr ⟨g,cap,cur,fz,e,hbg,hk _ _ _ _ hg (.inr rfl),rest⟩
 exact h.elim (λx=>.inl (key _ x)) (λx=>.inr (key _ x))
def QM(w:World)(tb sb b7 aT:Nat)(p:dG)(pb ps:Value)(ls:List (List Nat))(k:Nat)(W:World):Prop:=
 ∃V:SV,GV W tb pb ps V/\zn aT V p (stB p (ls.take k) (begin p)) W/\Lib.IsBuilderF 48 5 sb sb (Lib.byteCells (bytes (wG p (ls.take k) (begin p)))) W/\iJ W b7 34 [.pointer (some tb)]/\Below w w W
theorem QM.keep{w:World}{tb sb b7 aT:Nat}{p:dG}{pb ps:Value}{ls:List (List Nat)}{k:Nat}{W W':World}(h:QM w tb sb b7 aT p pb ps ls k W)(hk:jdT W W')(hb:Below w w W'):QM w tb sb b7 aT p pb ps ls k W':=by
 obtain⟨V,h1,h2,h3,h4,_⟩:=h;refine⟨V,hk _ _ _ _ h1 (by decide),h2.E5 λk c t hg n1 _ _ _=>hk _ _ _ _ hg n1,TD h3 λk c t fz hg ht=>hk _ _ _ _ hg ?_,hk _ _ _ _ h4 (by decide),hb⟩
 rcases ht with rfl|rfl<;>decide
theorem jcI{W W':World}{row:Option Nat}(hg:W.grownBy W' row)(hr:∀r,row=some r->∃o:Obj,W.heap[r]?=some o/\o.isCells=false):jdT W W':=λk c t fz h _=>by
 refine(hg.block k (bI.1 h).1 λe=>?_).trans h
 obtain⟨o,ho,hc⟩:=hr _ e.symm;rw[h]at ho
 injection ho with ho
 subst ho;cases hc
theorem jeG{W W':World}{b:Nat}{x:List Value}(hs:Step (·=b) W W')(hb:iJ W b 9 x):jdT W W':=λk c t fz h ht=>by
 refine(hs.block k (bI.1 h).1 λe=>?_).trans h
 subst e;have hb':W.heap[k]?=_:=hb;rw[h]at hb'
 injection hb' with hb'
 injection hb' with _ h2
 exact ht h2
theorem QM.next{w:World}{tb sb b7 aT:Nat}{p:dG}{pb ps:Value}{ls:List (List Nat)}{k:Nat}{V':SV}{W1 W2:World}(h1:GV W1 tb pb ps V')(h2:zn aT V' p (stB p (ls.take (k+1)) (begin p)) W1)(h4:iJ W1 b7 34 [.pointer (some tb)])(h5:Below w w W1)
  (h3:Lib.IsBuilderF 48 5 sb sb (Lib.byteCells (bytes (wG p (ls.take (k+1)) (begin p)))) W2) (hb:Below sb W1 W2) (ho:Lib.OthersKept 5 (some sb) W1 W2) (htb:tb<sb) (hb7:b7<sb) (hw:w.heap.size<=sb) {q:Array Value} {fq:Nat×Nat} (hsb:W1.heap[sb]?=some (.cells q 48 fq)):QM w tb sb b7 aT p pb ps ls (k+1) W2:=
 ⟨V',(hb.block tb htb).trans h1,h2.E5 λk c t hg _ n2 n3 _=>ho k _ hg (λe=>by
   injection e with e
   subst e;rw[hsb]at hg
   injection hg with hg
   injection hg with _ hg
   exact n3 hg.symm) λc' fz e=>by injection e with _ e;exact n2 e,h3,(hb.block b7 hb7).trans h4,h5.trans (hb.mono hw)⟩
theorem jcp{x:Nat}(h:x<256)(hne:x≠10):(UInt8.ofNat x==10)=false:=by
 rw[kL];intro he;have:=nO UInt8.toNat he;rw[UInt8.toNat_ofNat',AB (by simpa using h)]at this
 exact hne this
theorem U8:∀t:List Nat,(∀n∈t,n<256)->Lib.countByte (bytes t) 10=t.count 10
 |[],_=>rfl
 |x::r,h=>by
  have ih:=U8 r λn hn=>h n (aY _ hn)
  have hx:=h x (bW ..);unfold Lib.countByte at*
  show(UInt8.ofNat x::bytes r).count 10=_;rw[List.count_cons,List.count_cons,ih];by_cases e:x=10
  ·subst e;rfl
  ·rw[jcp hx e];have:(x==10)=false:=by simpa using e
   rw[this]
theorem jaq(t:List Nat)(h:∀n∈t,n<256):Lib.hasSuffix (bytes t) [10]=decide (t.getLast?=some 10):=by
 unfold Lib.hasSuffix;rcases List.eq_nil_or_concat t with rfl|⟨r,x,rfl⟩
 ·rfl
 ·have hx:=h x (by simp)
  rw[List.concat_eq_append];rw[List.isSuffixOf];have e:(bytes (r++[x])).reverse=UInt8.ofNat x::(bytes r).reverse:=by simp[bytes]
  have e2:(r++[x]).getLast?=some x:=by simp
  rw[e,e2];show([10]:List UInt8).isPrefixOf _=_;rw[List.isPrefixOf,List.isPrefixOf];by_cases e3:x=10
  ·subst e3;rfl
  ·have:=jcp hx e3;have e4:((10:UInt8)==UInt8.ofNat x)=false:=by rw[kL]at this ⊢;exact λh=>this h.symm
   rw[e4];simp[e3]
theorem jgA(x:List Nat):(⟨(Lib.trimSuffix (eY (x++[10])).data.toList (⟨#[10]⟩:ByteArray).data.toList).toArray⟩:ByteArray)=eY x:=by
 have e:(eY (x++[10])).data.toList=bytes x++[10]:=by rw[Ii];simp[bytes]
 rw[e];show(⟨(Lib.trimSuffix (bytes x++[10]) [10]).toArray⟩:ByteArray)=_;have h:Lib.hasSuffix (bytes x++[10]) [10]=true:=by
  unfold Lib.hasSuffix;exact List.isSuffixOf_iff_suffix.2 ⟨_,rfl⟩
 unfold Lib.trimSuffix;rw[h,aB rfl];have:(bytes x++[10]).take ((bytes x++[10]).length - ([10]:List UInt8).length)=bytes x:=by simp
 rw[this];rfl
theorem WA:∀t:List Nat,∃ls x,splitB 10 t=ls++[x]/\joinL ls++x=t/\(t.getLast?=some 10->x=[])
 |[]=>⟨[],[],rfl,rfl,λh=>by cases h⟩
 |c::r=>by
  obtain⟨ls,x,h1,h2,h3⟩:=WA r;rw[splitB];by_cases hc:c=10
  ·subst hc;rw[aB rfl,h1];refine⟨[]::ls,x,rfl,by simp[joinL]at h2 ⊢;exact h2,λh=>?_⟩
   cases r with
   |nil=>
    simp[splitB]at h1
    cases ls with
    |nil=>simpa using h1.symm
    |cons a b=>simp at h1
   |cons d r=>exact h3 (by rwa [wC]at h)
  ·rw[au hc,h1];cases ls with
   |nil=>
    refine⟨[],c::x,rfl,by simp[joinL]at h2 ⊢;exact h2,λh=>?_⟩
    cases r with
    |nil=>simp at h;exact absurd h hc
    |cons d r=>
     have:=h3 (by rwa [wC]at h)
     subst this;simp[joinL]at h2
   |cons a b=>
    refine⟨(c::a)::b,x,rfl,by simp[joinL]at h2 ⊢;exact h2,λh=>?_⟩
    cases r with
    |nil=>simp[joinL]at h2
    |cons d r=>exact h3 (by rwa [wC]at h)
theorem Nb:∀(t x:List Nat),x∈splitB 10 t->10 ∉ x
 |[],x,h=>by
  rw[splitB,ig]at h
  subst h;simp
 |c::r,x,h=>by
  rw[splitB]at h
  by_cases hc:c=10
  ·rw[aB hc]at h
   rcases fF.1 h with rfl|h
   ·simp
   ·exact Nb r x h
  ·rw[au hc]at h
   have hm:∀y,y∈(splitB 10 r).headD []::(splitB 10 r).tail->y∈splitB 10 r:=λy hy=>by rwa [KT]at hy
   rcases fF.1 h with rfl|h
   ·have:=Nb r _ (hm _ (bW ..));simp only[fF,not_or];exact⟨λe=>hc e.symm,this⟩
   ·exact Nb r x (hm _ (aY _ h))
theorem jbN{t:List Nat}(h:t=[]\/t.getLast?=some 10)(hb:∀n∈t,n<256):joinL (splitB 10 t).dropLast=t/\(∀x∈(splitB 10 t).dropLast,∀n∈x,n<256/\n≠10):=by
 obtain⟨ls,x,h1,h2,h3⟩:=WA t;have hx:x=[]:=by
  rcases h with rfl|h
  ·simp[splitB]at h1
   cases ls with
   |nil=>simpa using h1.symm
   |cons a b=>simp at h1
  ·exact h3 h
 subst hx;rw[h1,List.dropLast_concat];refine⟨by simpa using h2,λy hy n hn=>⟨?_,?_⟩⟩
 ·exact hb n ((PV 10 t y (by rw[h1];exact tY _ hy)).1 n hn)
 ·intro e;subst e;exact Nb t y (by rw[h1];exact tY _ hy) hn
end
section
theorem jec(n:Nat)(h2:3<=n){g:Operand}{q s1:Nat}{assign body:Code}{Q:Exit->Go.Act->World->Prop}{a:Go.Act}{w:World}(Bs:Nat)(ls:List (List Nat))(hls:∀x∈ls,∀n∈x,n<256/\n≠10)(lZ:(joinL ls).length<=1000000)(hB:Bs<w.heap.size)
  (hg:a.eval g=.func (.func 30) #[] #[.pointer (some Bs)])
  (I:Nat->World->Prop) (hK:∀k W W',I k W->jdT W W'->Below Bs W W'->I k W') (h0:I 0 w) (hbx:iJ w Bs 9 [.string (eY (joinL ls))])
  (wV:∀(l:Nat) (v:Value) (W:World) (K:Go.Act->World->Prop),K {tmps:=(a.tmps.setIfInBounds q v).setIfInBounds s1 v,defers:=[]} W->
   assign.wpIn (Fence.wide.inRound l) (n - 1 - 1) prog (Exit.then K (λ_ _ _=>False)) {tmps:=a.tmps.setIfInBounds q v,defers:=[]} W)
  (hbody:∀(l k:Nat) (x:List Nat) (W:World),ls[k]?=some x->I k W->iJ W Bs 9 [.string (eY (joinL (ls.drop (k+1))))]->
   body.wpIn (Fence.wide.inRound l) (n - 1 - 1) prog (Exit.then (λ_ W'=>KeepsFrom w W W'/\I (k+1) W'/\iJ W' Bs 9 [.string (eY (joinL (ls.drop (k+1))))]) (λ_ _ _=>False)) {tmps:=(a.tmps.setIfInBounds q (.string (eY (x++[10])))).setIfInBounds s1 (.string (eY (x++[10]))),defers:=[]} W)
  (Ei:∀(D:Nat) (W:World),w.heap.size<=D->I ls.length W->W.heap[D]?=some (.deferred (some []))->Q .normal {a with defers:={target:=.collected D,args:=#[]}::a.defers} W):
  (Code.rangeFunc g #[q] assign body).wpIn Fence.wide n prog Q a w:=by
 have hgr:∀ {A B:World} {row:Option Nat},A.grownBy B row->(∀r,row=some r->w.heap.size<=r/\∃o:Obj,A.heap[r]?=some o/\o.isCells=false)->Bs<A.heap.size->jdT A B/\Below Bs A B:=λ{A B row} hg' hr hs=>
  ⟨jcI hg' λr e=>(hr r e).2,(aj Bs A).grown hg' (iQ hs) λk e=>by have:=(hr k e).1;omega⟩
 have hcb:∀ {A B:World} {row:Option Nat} {x:List Value},A.grownBy B row->(∀r,row=some r->w.heap.size<=r/\∃o:Obj,A.heap[r]?=some o/\o.isCells=false)->iJ A Bs 9 x->iJ B Bs 9 x:=λhg' hr hb=>hb.grown hg' λe=>by have:=(hr _ e.symm).1;omega
 refine Qn (F:=Fence.wide) rfl (by omega) (gf:=30) (lb:=#[.pointer (some Bs)]) hg trivial (enters_of func30 (by kernel_rfl) rfl)
  (encs:=λx:List Nat=>#[.string (eY (x++[10]))]) (λ_=>rfl)
  (λpre W=>I pre.length W/\iJ W Bs 9 [.string (eY (joinL (ls.drop pre.length)))])
  (λs A B row hs hg' hr=>⟨hK _ _ _ hs.1 (hgr hg' hr hs.2.lt).1 (hgr hg' hr hs.2.lt).2,hcb hg' hr hs.2⟩) ⟨h0,hbx⟩
  (λy W=>I y.1.length W/\iJ W Bs 9 [.string (eY (joinL (ls.drop (y.1.length+1))))]/\ls[y.1.length]?=some y.2)
  (λs A B row hs hg' hr=>⟨hK _ _ _ hs.1 (hgr hg' hr hs.2.1.lt).1 (hgr hg' hr hs.2.1.lt).2,hcb hg' hr hs.2.1,hs.2.2⟩) (λys=>ys.length=ls.length)
  (λl R W _ hR hY hT0 hR0=>?_)
  (λx a' W=>a'={tmps:=(a.tmps.setIfInBounds q (.string (eY (x++[10])))).setIfInBounds s1 (.string (eY (x++[10]))),defers:=[]})
  (λx a' _ X Y row hs _ _=>hs) (λl pre x W K hi hK'=>?_) (λl pre x a' W _ hi hax=>?_) (λD ys W hD hS hi hd=>?_)
 ·refine(jgS (n - 1) l Bs ls (by omega) hls lZ (λk W=>I k W/\iJ W Bs 9 [.string (eY (joinL (ls.drop k)))]) (λk W=>I k W/\iJ W Bs 9 [.string (eY (joinL (ls.drop (k+1))))]) R W (λk V h=>h.2) (λk V V' hk h hs hb=>⟨hK _ _ _ h.1 (jeG hs h.2) (hs.below (λj e=>by omega) (iQ h.2.lt)),hb⟩)
   (λV V' h hs=>hR V V' h (hs.mono λj e=>by omega)) (λk V hk hi hr=>?_) hT0 hR0).mono ?_
  ·have e:(ls.take k).length=k:=by rw[bC];omega
   have hy:=hY (ls.take k) ls[k] V ⟨by rw[e];exact hi.1,by rw[e];exact hi.2,by rw[e];exact bQ hk⟩ hr
   rw[aX,e]at hy
   obtain⟨fn,tmps,assign,body,hy,hRd⟩:=hy;exact⟨fn,tmps,assign,body,hy,hRd.mono λe' V' h=>⟨h.1,h.2.1,h.2.2⟩⟩
  ·rintro e V ⟨hv,hT,hr⟩;exact⟨hv,ls,rfl,hT,hr⟩
 ·have hz:Array.foldl (λt (x:Nat×Value)=>match x with|(p,v)=>t.setIfInBounds p v) a.tmps (#[q].zip #[Value.string (eY (x++[10]))])=a.tmps.setIfInBounds q (.string (eY (x++[10]))):=by simp
  rw[hz];exact wV l _ W K (hK' _ _ (KeepsFrom.refl _ _) hi rfl)
 ·rw[hax];have:=hbody l pre.length x W hi.2.2 hi.1 hi.2.1;rw[aX];exact this
 ·rw[hS]at hi
  exact Ei D W hD hi.1 hd
end
section
attribute [local go_sem] aV jF iY jI
attribute [local go_sem] Oper.semAt_some
theorem Vk{o:Oper}{ev:Operand->Value}{w:World}{K:Value->World->Prop}(x y:Operand)(ho:o.op=.store 40 x y)(tb:Nat)(pb ps:Value)(V V':SV)(ht:GV w tb pb ps V)(hx:ev x=.pointer (some ⟨tb,2,none⟩))(hy:ev y=V'.val)(h1:V'.cells.all (λu=>u.oneCell')=true)
  (h:∀w',GV w' tb pb ps V'->w.grownBy w' (some tb)->K undef w'):iq prog o ev w K:=by
 have hr:=Hq (P:=prog) w tb 2 42 40 ([pb,ps]++V.cells) V'.cells ht (ay _) (by kernel_rfl) (bJ.1 h1)
 have hk:=h _ (iJ.row ht ([pb,ps]++V'.cells)) (wL w tb _);have hy':ev y=.agg V'.cells.toArray:=hy;unfold iq execOp;simp only[ho,hx,hy',Instr.storeAt,Instr.sureAddr,iP,jc,gY,hr];exact hk
theorem ZM:∀ls:List (List Nat),ls.length<=(joinL ls).length
 |[]=>aN _
 |x::r=>by
  have:=ZM r;have e:joinL (x::r)=x++[10]++joinL r:=rfl;rw[e,aX,aX,bP];simp only[bP,dQ];omega
theorem ZL:∀ {ls:List (List Nat)} {x:List Nat},x∈ls->x.length<=(joinL ls).length
 |y::r,x,h=>by
  have e:joinL (y::r)=y++[10]++joinL r:=rfl;rw[e,aX,aX];rcases fF.1 h with rfl|h
  ·omega
  ·have:=ZL h;omega
theorem jhC(a b:List Nat):Lib.byteCells (bytes a)++Lib.strCells (eY b)=Lib.byteCells (bytes (a++b)):=by
 unfold Lib.strCells Lib.byteCells;rw[Ii];unfold bytes;simp only[gJ]
theorem jkz(w:World)(v:Value)(p:dG)(t:List Nat)(hp:kK w w v p)(hL:F8 w)(hb:∀n∈t,n<256)(hl:t.length<=140737488355328):
  Calls prog 4 #[v,.string (eY t)] w λe w'=>e=.returned (.tuple #[.string (eY (CS p t).1),.int .i64 (CS p t).2])/\Below w w w':=by
 have hsz:=pK t;have hbt:=ah hb;have hL':=ah hL;have hcb:=U8 t hb;have hsb:=jaq t hb;clear hb hL;obtain⟨Ab,cb,As,cs,rfl,hP',hBn,hSz,hlb,hls⟩:=o9 hp;refine(iy (n:=9)).1 ?_
 refine callsIn_of_wp_marks func4 rfl trivial ?_ rfl
 simp only[ntmps4,iR,bP,dQ,Nat.reduceAdd,Nat.reduceSub,gW,iG,jh,iM,fJ,gG];refine qY.2 ?_
 go_wp2_with fail;have hb0:Below w w (w.alloc (kD p Ab cb As cs)):=(aj _ _).alloc (ay _) _;have hpl0:iJ (w.alloc (kD p Ab cb As cs)) w 25 [.slice Ab p.dP.length cb,.slice As p.aW.length cs]:=iJ.new _ _ _;generalize w.alloc (kD p Ab cb As cs)=W0 at hb0 hpl0 ⊢
 have y0:=hpl0.cell (j:=0) rfl;have y1:=hpl0.cell (j:=1) rfl;have lp:=hpl0.lt;have hlt0:=lp;have jcQ:=ah (λW (hW:Below W0 W0 W)=>hpl0.below hW lp)
 clear hpl0;go_wp2_with fail;clear y0 y1 lp;refine(PZ W0 _ p (hP'.O _ hb0)).mono ?_
 rintro e W1 ⟨rfl,hb1⟩;have hB1:=fD hb0 hb1;by_cases hz:fU p=0
 ·have hz':=ah hz;rw[hz];clear hz;by_cases h1:4096<t.length
  ·have hres:=ah (show CS p t=([],2)by
    unfold CS;rw[au (λh=>h hz'.O),aB (.inl h1)])
   have h1':(4096:Int)<(t.length:Int):=by omega
   go_wp2_with fail;exact⟨.tuple #[.string ⟨#[]⟩,.int .i64 2],by simp[results,results4,go_sem],(by rw[hres.O];rfl),hB1⟩
  ·have h1':¬(4096:Int)<(t.length:Int):=by omega
   go_wp2_with fail;refine(Wh.strings_Count_one (eY t) 10 _).mono ?_
   rintro e W2 ⟨rfl,rfl⟩;rw[Ii,hcb];by_cases h2:60<t.count 10
   ·have hres:=ah (show CS p t=([],2)by
     unfold CS;rw[au (λh=>h hz'.O),aB (.inr h2)])
    have h2':(60:Int)<(t.count 10:Int):=by omega
    go_wp2_with fail;exact⟨.tuple #[.string ⟨#[]⟩,.int .i64 2],by simp[results,results4,go_sem],(by rw[hres.O];rfl),hB1⟩
   ·have h2':¬(60:Int)<(t.count 10:Int):=by omega
    clear hcb;have hpl2:=jcQ.O W2 hb1;have y0:=hpl2.cell (j:=0) rfl;have y1:=hpl2.cell (j:=1) rfl;have lp:=hpl2.lt;by_cases h3:t=[]\/t.getLast?=some 10
    ·have hres:=ah (jce hz'.O h1 h2 h3);have h3':=ah h3;by_cases ht0:t=[]
     case' pos=>
      have htl:(eY t).toList.isEmpty=true:=by rw[ht0,tN];rfl
      clear ht0 h3;go_wp2_with fail
     case' neg=>
      have htl:(eY t).toList.isEmpty=false:=by rw[tN];simpa using ht0
      have h4:t.getLast?=some 10:=h3.resolve_left ht0;clear ht0 h3;go_wp2_with fail;refine(Wh.strings_HasSuffix (eY t) ⟨#[10]⟩ _ (by omega)).mono ?_
      rintro e W2 ⟨rfl,rfl⟩;have hsx:Lib.hasSuffix (eY t).data.toList (⟨#[10]⟩:ByteArray).data.toList=true:=by
       rw[Ii];exact hsb.trans (by rw[h4];rfl)
      rw[hsx];clear h4;go_wp2_with fail
     all_goals
      clear y0 y1 hpl2 htl;have hal:=((aj W2 W2).alloc (ay _) (.cells #[.slice Ab p.dP.length cb,.slice As p.aW.length cs,nS,nS,nS,nS,nS,nS,nS] 42)).alloc (by simp) (.cells #[.pointer (some W2)] 34)
      have htb:GV ((W2.alloc (.cells #[.slice Ab p.dP.length cb,.slice As p.aW.length cs,nS,nS,nS,nS,nS,nS,nS] 42)).alloc (.cells #[.pointer (some W2)] 34)) W2 (.slice Ab p.dP.length cb) (.slice As p.aW.length cs) dV:=(iJ.new W2 42 #[.slice Ab p.dP.length cb,.slice As p.aW.length cs,nS,nS,nS,nS,nS,nS,nS]).alloc _;have hb7:=iJ.new (W2.alloc (.cells #[.slice Ab p.dP.length cb,.slice As p.aW.length cs,nS,nS,nS,nS,nS,nS,nS] 42)) 34 #[.pointer (some W2)];rw[dK]at hb7
      generalize (W2.alloc (.cells #[.slice Ab p.dP.length cb,.slice As p.aW.length cs,nS,nS,nS,nS,nS,nS,nS] 42)).alloc (.cells #[.pointer (some W2)] 34)=W3 at hal htb hb7 ⊢
      have Og:=jcQ.O W3 (fD hb1 hal);have hB3:=fD hB1 hal;have hlt2:w.heap.size<W2.heap.size:=lp;generalize W2.heap.size=tb at hal htb hb7 hlt2 ⊢
      have lp3:=Og.lt;have l7:=hb7.lt;have lt3:=htb.lt;refine AQ 9 (λw'=>W3.grownBy w' (some tb)) (λw'=>Below W3 W3 w') (λw1 w2=>(∃V1,GV w1 tb (.slice Ab p.dP.length cb) (.slice As p.aW.length cs) V1)/\w1.grownBy w2 (some tb)) 8 [
       λg _=>g 34=.pointer (some tb),λg _=>g 35=.agg (xu p Ab cb As cs),λg w'=>MV W3 p (begin p) (λV=>.tuple #[V.val,zI]) (g 36) w',λg w'=>MV W3 p (begin p) (λV=>.tuple #[V.val,zI]) (g 33) w',λg w'=>MV W3 p (begin p) SV.val (g 37) w',λg _=>g 38=zI,λg _=>g 39=.pointer (some tb),λg _=>g 40=.pointer (some ⟨tb,2,none⟩),λ_ w'=>∃V1,GV w' tb (.slice Ab p.dP.length cb) (.slice As p.aW.length cs) V1/\zn W3 V1 p (begin p) w'] (by kernel_rfl) (by kernel_rfl) rfl (by kernel_rfl)
       (λw1 w2 h hb=>BH h (kW hb)) (λw1 w2 h h'=>BH h h'.2) (λw1 w2 h hb=>fD h hb) (kW (aj _ _).drew) (aj _ _).drew ?_ (λf w5 hT hR=>?_)
      ·simp only[aG,aS];refine fQ.vA (λg w' hT hJ ho hd=>?_) ?_
       ·have hb:=hJ (.inr ⟨_,⟨0,.phase⟩,rfl,by simp,rfl,rfl⟩)
        have e7:=ho 7 rfl;have y0:=(hb7.below hb l7).cell (j:=0) rfl;go_simp
       refine fQ.vA (λg w' hT hJ ho hd=>?_) ?_
       ·have hb:=hJ (.inr ⟨_,⟨1,.phase⟩,rfl,by simp,rfl,rfl⟩)
        have e2:=ho 2 rfl;have y0:=(Og.below hb lp3).cell (j:=0) rfl;have y1:=(Og.below hb lp3).cell (j:=1) rfl;go_simp
       refine fQ.cons (CW.jew (d:=36) (p:=MV W3 p (begin p) (λV=>.tuple #[V.val,zI])) rfl rfl (by decide) (λv w1 w2 h hb=>h.elim λV h=>⟨V,h.1,h.2.below hb⟩) (λv w1 w2 h hb=>h.elim λV h=>hb.1.elim λV1 N9=>⟨V,h.1,h.2.Nw hb.2 N9⟩) (λg w' hT hJ ho hd=>?_)) ?_
       ·have hb:=hJ (.inr ⟨_,⟨2,.phase⟩,rfl,by simp,rfl,rfl⟩)
        have e35:_=_:=hd.d 1;have kB:=jnQ w' (.agg (xu p Ab cb As cs)) p (hP'.O _ (fD hB3 hb));rw[hz'.O,aB rfl]at kB
        unfold iq;go_simp
        refine kB.mono ?_
        rintro e w2 ⟨V2,rfl,ho2,hb2⟩;exact⟨_,rfl,⟨V2,rfl,.inl ⟨ho2.from_ hb.size,Px (IV hz'.O)⟩⟩,hb2⟩
       refine fQ.cons (CW.jew (d:=33) (p:=MV W3 p (begin p) (λV=>.tuple #[V.val,zI])) rfl rfl (by decide) (λv w1 w2 h hb=>h.elim λV h=>⟨V,h.1,h.2.below hb⟩) (λv w1 w2 h hb=>h.elim λV h=>hb.1.elim λV1 N9=>⟨V,h.1,h.2.Nw hb.2 N9⟩) (λg w' hT hJ ho hd=>?_)) ?_
       ·obtain⟨V2,e36,hM2⟩:MV W3 p (begin p) (λV=>.tuple #[V.val,zI]) (g 36) w':=hd.d 2
        have jff:=ah hM2;clear hM2;unfold iq;go_simp
        exact⟨⟨V2,rfl,jff.O⟩,aj _ _⟩
       refine fQ.cons (CW.jew (d:=37) (p:=MV W3 p (begin p) SV.val) rfl rfl (by decide) (λv w1 w2 h hb=>h.elim λV h=>⟨V,h.1,h.2.below hb⟩) (λv w1 w2 h hb=>h.elim λV h=>hb.1.elim λV1 N9=>⟨V,h.1,h.2.Nw hb.2 N9⟩) (λg w' hT hJ ho hd=>?_)) ?_
       ·obtain⟨V2,e33,hM2⟩:MV W3 p (begin p) (λV=>.tuple #[V.val,zI]) (g 33) w':=hd.d 3
        have jff:=ah hM2;clear hM2;unfold iq;go_simp
        exact⟨⟨V2,rfl,jff.O⟩,aj _ _⟩
       refine fQ.v (λg w' hT ho hd=>?_) ?_
       ·obtain⟨V2,e33,hM2⟩:MV W3 p (begin p) (λV=>.tuple #[V.val,zI]) (g 33) w':=hd.d 3
        clear hM2;go_simp
       refine fQ.vA (λg w' hT hJ ho hd=>?_) ?_
       ·have e34:_=_:=hd.d 0;go_simp
       refine fQ.vA (λg w' hT hJ ho hd=>?_) ?_
       ·have e39:_=_:=hd.d 6;go_simp
       refine fQ.cons ⟨λg w1 w2 ⟨V1,h1,h2⟩ hb=>⟨V1,iJ.below h1 hb h1.lt,h2.below hb⟩,λhne=>absurd rfl hne,λg g' w1 he h=>h,λg w' hT hJ ho hd=>?_⟩ ?_
       ·have e40:_=_:=hd.d 7;obtain⟨V2,e37,hM2⟩:MV W3 p (begin p) SV.val (g 37) w':=hd.d 4;have N9:=iJ.below htb (hJ (.inl rfl)) lt3;refine Vk (.tmp 40) (.tmp 37) rfl tb _ _ dV V2 N9 e40 e37 hM2.made.one (λw8 IL Qq=>?_)
        exact⟨⟨V2,IL,hM2.Nw Qq N9⟩,.inr ⟨rfl,⟨dV,N9⟩,Qq⟩⟩
       exact fQ.nil
      obtain⟨r34,r35,⟨_,r36,_⟩,⟨_,r33,_⟩,⟨_,r37,_⟩,r38,r39,r40,⟨V5,jrv,hM5⟩,_⟩:=hR;simp only[kP,qJ,aG,aS,bU,dH,bY,cO,dA,dL,aQ,bG,bH,r34,r35,r36,r33,r37,r38,r39,r40];clear r34 r35 r36 r33 r37 r38 r39 r40;refine eP ?_
      have YV:=hB3.grown hT hB3.size (λj hj=>by injection hj with hj;omega)
      have jo8:=ah (hb7.grown hT (by intro he;injection he with he;omega))
      have jue:W3.heap.size<=w5.heap.size:=hT.size;have jjb:=ah jrv;have jme:=ah hM5;clear hT hM5 jrv Og hb7 htb;go_wp2_with fail;refine((iy (n:=8)).1 (jiR 8 _ _)).mono ?_
      rintro e W6 ⟨rfl,rfl⟩;go_wp2_with fail;obtain⟨hj,hok⟩:=jbN h3'.O hbt.O;obtain⟨ls,jrR⟩:∃ls,(splitB 10 t).dropLast=ls:=⟨_,rfl⟩;rw[jrR]at hj hok hres
      have hok':=ah hok;have hjl:(joinL ls).length=t.length:=by rw[hj]
      have hba:=((aj w5 w5).alloc (ay _) (.cells #[.pointer none,nS] 48)).alloc (by simp) (.cells #[.string (eY t)] 9)
      have jof:iJ ((w5.alloc (.cells #[.pointer none,nS] 48)).alloc (.cells #[.string (eY t)] 9)) w5 48 [.pointer none,nS]:=(iJ.new w5 48 #[.pointer none,nS]).alloc _;have hBs:=iJ.new (w5.alloc (.cells #[.pointer none,nS] 48)) 9 #[.string (eY t)];rw[dK]at hBs
      have jrF:((w5.alloc (.cells #[.pointer none,nS] 48)).alloc (.cells #[.string (eY t)] 9)).heap.size=w5.heap.size+1+1:=by simp
      generalize (w5.alloc (.cells #[.pointer none,nS] 48)).alloc (.cells #[.string (eY t)] 9)=w6 at hba jof hBs jrF ⊢
      have l7:=jo8.O.lt;have hw5:=YV.size;have hT0:QM w tb w5 (tb+1) W3 p (.slice Ab p.dP.length cb) (.slice As p.aW.length cs) ls 0 w6:=
       ⟨V5,iJ.below jjb.O hba jjb.O.lt,jme.O.below hba,.inl ⟨ay _,_,jof,⟨rfl,.inl ⟨rfl,rfl⟩⟩,by simp[Value.ownBlock]⟩,jo8.O.below hba l7,fD YV hba⟩
      rw[<- hj]at hBs
      clear jjb jme jo8 hba jof hok jrR hj;generalize w5.heap.size=sb at hT0 hBs jrF l7 hw5 jue ⊢
      refine(qY (n:=9)).1 ?_
      refine jec (s1:=9) 9 (by omega) (sb+1) ls hok'.O (by omega) (by omega) rfl (λk W=>k<=ls.length/\QM w tb sb (tb+1) W3 p (.slice Ab p.dP.length cb) (.slice As p.aW.length cs) ls k W) ?hK ⟨aN _,hT0⟩ hBs ?wV ?hbody ?Ei
      case hK=>
       rintro k W W' ⟨hk,hp⟩ hx hbl;have jc2:=hbl.mono (show w.heap.size<=sb+1 by omega)
       obtain⟨V,q1,q2,q3,q4,q5⟩:=hp;exact⟨hk,QM.keep ⟨V,q1,q2,q3,q4,q5⟩ hx (q5.trans jc2)⟩
      case wV=>
       intro l v W K hK;simp only[aQ,bG,bH]at hK ⊢
       gi_wp2
       exact hK
      case hbody=>
       intro l k x W hk ⟨hkl,hI⟩ hbx;simp only[aQ,bG,bH];gi_wp2
       obtain⟨V,htW,hMW,hbu,jo7,hBW⟩:=hI;have hkl':k<ls.length:=(fA.1 hk).1
       have htk:ls.take (k+1)=ls.take k++[x]:=by rw[List.take_add_one,hk];rfl
       have hsn:=OD p (ls.take k) x (begin p);have hst:=Wy p (ls.take k) x (begin p);rw[<- htk]at hsn hst
       have hck:=TR p (ls.take k) (begin p) (IV hz'.O);have hlf:=(OE p (ls.take k) (begin p) (IV hz'.O)).1;obtain⟨s,hs⟩:∃s,stB p (ls.take k) (begin p)=s:=⟨_,rfl⟩;rw[hs]at hMW hck hst hsn
       obtain⟨o,ho⟩:∃o,wG p (ls.take k) (begin p)=o:=⟨_,rfl⟩;rw[ho]at hsn hlf hbu
       obtain⟨s1,o1,hgv⟩:∃s1 o1,EJ p s x=(s1,o1):=⟨_,_,rfl⟩;rw[hgv]at hst hsn
       have ho1:o1.length<=2200000:=by
        have:=(KP hck ((splitB 32 x).headD []) (splitB 32 x).tail).2.1;unfold EJ at hgv
        rw[hgv]at this
        exact this
       have hxm:x∈ls:=qC hk;have hxl:x.length<=4096:=by have:=ZL hxm;omega
       have hxb:∀n∈x,n<256:=λn hn=>(hok'.O x hxm n hn).1
       have hkb:(ls.take k).length<=4096:=by have:=ZM ls;rw[bC];omega
       have hol:o.length<=4096*2200001:=aU hlf (kE _ hkb);have ltW:=htW.lt;have l7W:=jo7.lt;have jt8:=ah hsn;have hst':=ah hst;have joM:=ah hgv;have juQ:=ah hck;have jrw:=ah htW;have ju8:=ah hMW;have juV:=ah hbu;clear hsn hst hgv hck htW hMW hbu hlf htk hs ho hkb;refine Fq (by kernel_rfl) (λh=>by obtain⟨_,_,h⟩:=h;exact h) (by kernel_rfl) (jbw 3 [λg' _=>g' 44=.pointer (some tb),λg' _=>g' 45=.string (eY (x++[10])),λg' _=>g' 46=.string (eY x)] (by kernel_rfl) rfl (by kernel_rfl) ?jn0 (λf w10 hT hR=>?jn1))
       case jn0=>
        simp only[aG,aS];refine bT.v (λgq w' hb ho hd=>?_) ?_
        ·have q1:=ho 7 rfl;have q2:=(jo7.below hb l7W).cell (j:=0) rfl;go_simp
        refine bT.v (λgq w' hb ho hd=>?_) ?_
        ·have q1:=ho 9 rfl;go_simp
        refine bT.cons (sN.one (d:=46) (p:=λv _=>v=.string (eY x)) rfl rfl (λ_ _ _ h _=>h) (λgq w' hb ho hd=>?_)) ?_
        ·have q1:_=_:=hd.d 1;have hsx:=pK (x++[10]);rw[aX]at hsx
         have kT:=Wh.strings_TrimSuffix (eY (x++[10])) ⟨#[10]⟩ w' (by simp only[bP,dQ]at hsx;omega)
         rw[jgA]at kT
         clear hsx;unfold iq;go_simp
         refine kT.mono ?_
         rintro e w2 ⟨rfl,rfl⟩;exact⟨_,rfl,rfl,aj _ _⟩
        exact bT.nil
       case jn1=>
        simp only[Jh]at hR
        simp only[kP,qJ,aG,aS,bU,dH,bY,cO,dA,dL,aQ,bG,bH,hR];clear hR;have Oi:=fD hBW hT;go_wp2_with fail;have Ai:=ah (iJ.below jrw.O hT ltW);refine(jpA w10 tb w W3.heap.size V p s x Ab cb As cs (iJ.below jrw.O hT ltW) (hp.up Oi (ay _)) (by omega) (hL'.O.up Oi) (ju8.O.below hT) (by have:=hT.size;have:=hbx.lt;omega) juQ.O hxb hxl).mono ?_
        rintro e w11 ⟨V',rfl,jrz,jpf,SY⟩;rw[joM.O]at jpf ⊢
        have jnt:Lib.IsBuilderF 48 5 sb sb (Lib.byteCells (bytes o)) w11:=TD juV.O λk c t' fz hg ht'=>by
         have h1:=(hT.block k (bI.1 hg).1).trans hg
         refine(SY.block k (bI.1 h1).1 λe=>?_).trans h1
         subst e;have h2:w10.heap[k]?=_:=Ai.O;rw[h2]at h1
         injection h1 with h1
         injection h1 with _ h1
         subst h1;revert ht'
         decide
        have jvn:=Oi.trans (SY.below (B:=w.heap.size) (λj e=>by omega) Oi.size)
        have jsd:=SY.blk (iJ.below hbx hT hbx.lt) (show ¬(sb+1=tb)by omega)
        have jsp:=SY.blk (iJ.below jo7 hT l7W) (show ¬(tb+1=tb)by omega)
        have um:=pK o1;have hap:eY o1++⟨#[10]⟩=eY (o1++[10]):=GL _ [10];have hsz2:=pK (o1++[10]);rw[aX,bP,dQ]at hsz2
        have jjR:=ah jnt;have jry:=ah jrz;have jsK:=ah jpf;have hs11:=SY.size;have hs10:=hT.size;have lbs:=hbx.lt;clear jnt jrz jpf;go_wp2_with fail;refine(Wh.Builder_WriteString_k sb sb (Lib.byteCells (bytes o)) (eY (o1++[10])) w11 jjR.O (by rw[Lib.byteCells_length];show(List.map _ _).length+_<=_;rw[gX];omega) (by omega)).mono ?_
        rintro e w12 ⟨rfl,hat,hbel,hoth⟩;obtain⟨q,hq⟩:∃q,w11.heap[sb]?=some (.cells q 48 (0,0)):=by
         rcases jjR.O with⟨_,v,h2,_⟩|⟨_,v,h2,_⟩
         ·exact⟨_,h2⟩
         ·exact⟨_,h2⟩
        have jnu:iJ w12 (sb+1) 9 [.string (eY (joinL (ls.drop (k+1))))]:=hoth _ _ jsd (by intro e;injection e with e;omega) (λc fz e=>by injection e with _ e;revert e;decide)
        have dw:=ah (show KeepsFrom w6 W w12/\(k+1<=ls.length/\QM w tb sb (tb+1) W3 p (.slice Ab p.dP.length cb) (.slice As p.aW.length cs) ls (k+1) w12)/\iJ w12 (sb+1) 9 [.string (eY (joinL (ls.drop (k+1))))]from
         ⟨⟨aU hs10 (aU hs11 hbel.size),λj oj _ hj hc=>by
          have h1:=(hT.block j (bI.1 hj).1).trans hj
          have h2:=(SY.block j (bI.1 h1).1 λe=>by
           subst e;have h3:w10.heap[j]?=_:=Ai.O;rw[h3]at h1
           injection h1 with h1
           subst h1;cases hc).trans h1
          exact hoth j oj h2 (λe=>by
           injection e with e
           subst e;rw[hq]at h2
           injection h2 with h2
           subst h2;cases hc) λc fz e=>by subst e;cases hc⟩,⟨by omega,QM.next jry.O (by rw[hst'.O];exact jsK.O) jsp jvn (.inr (by rw[jt8.O,gZ,<- jhC];exact hat)) hbel hoth (by omega) (by omega) (by omega) hq⟩,jnu⟩)
        clear hat hbel hoth hq jnu;go_wp2_with fail;exact dw.O
      case Ei=>
       intro D W hD ⟨_,hI⟩ hWd;obtain⟨V,_,_,hbu,_,hBW⟩:=hI;rw[dR]at hbu
       obtain⟨q,hq⟩:∃q,W.heap[sb]?=some (.cells q 48 (0,0)):=by
        rcases hbu with⟨_,v,h2,_⟩|⟨_,v,h2,_⟩
        ·exact⟨_,h2⟩
        ·exact⟨_,h2⟩
       have lsb:=(bI.1 hq).1
       go_wp2_with fail;refine(Wh.Builder_String_any_k sb sb (bytes (wG p ls (begin p))) W hbu (iQ lsb)).mono ?_
       rintro e W9 ⟨rfl,_,hbel,hoth⟩;have hD9:=hoth D _ hWd (by intro e;injection e with e;omega) (λc fz e=>by cases e)
       have Bj:=hBW.trans (hbel.mono (by omega))
       have Oi:=Bj.grown (grownBy_putObj' W9 D (.deferred none)) Bj.size (λj hj=>by injection hj with hj;omega)
       go_wp2_with fail;refine⟨by simp,.inl ⟨_,_,rfl,run_takeDeferred hD9,?_⟩⟩
       exact⟨.tuple #[.string (eY (wG p ls (begin p))),zI],by simp[results,results4,go_sem,eY,bytes],by rw[hres.O],Oi⟩
    ·have hres:=ah (show CS p t=([],1)by
      unfold CS;rw[au (λh=>h hz'.O),au (λh=>h.elim h1 h2),aB ⟨λh=>h3 (.inl h),λh=>h3 (.inr h)⟩])
     have htl:(eY t).toList.isEmpty=false:=by rw[tN];have:t≠[]:=λh=>h3 (.inl h);simpa using this
     go_wp2_with fail;refine(Wh.strings_HasSuffix (eY t) ⟨#[10]⟩ _ (by omega)).mono ?_
     rintro e W3 ⟨rfl,rfl⟩;have hsx:Lib.hasSuffix (eY t).data.toList (⟨#[10]⟩:ByteArray).data.toList=false:=by
      rw[Ii];exact hsb.trans (iE λh=>h3 (.inr h))
     rw[hsx];go_wp2_with fail;exact⟨.tuple #[.string ⟨#[]⟩,.int .i64 1],by simp[results,results4,go_sem],(by rw[hres.O];rfl),hB1⟩
 ·have hres:=ah (show CS p t=([],fU p)by
   unfold CS;rw[aB hz])
  have hzb:(fU p !=0)=true:=by simpa using hz
  clear hz;go_wp2_with fail;exact⟨.tuple #[.string ⟨#[]⟩,(fU p)],by simp[results,results4,go_sem],(by rw[hres.O];rfl),hB1⟩
end
section
attribute [local go_sem] aV jF iY jI
theorem jhu(w:World)(hL:F8 w):Calls prog 6 #[] w λe w'=>e=.returned (.bool true)/\Below w w w':=by
 go_enter func6,ntmps6
 go_wp2_with fail;refine(jrd _).mono ?_
 rintro e W1 ⟨u1,rfl,hu1,hb1⟩;have k:=jkz W1 u1 VU script hu1 (hL.up hb1) (by decide) (by decide)
 rw[jel]at k
 go_wp2_with fail;refine k.mono ?_
 rintro e W2 ⟨rfl,hb2⟩;have he:∀l:List UInt8,l=told.map UInt8.ofNat->((eY told).toList==l)=true:=by
  rintro _ rfl;rw[tN];simp
 go_wp2_with fail;rw[he]
 ·exact bV (v:=.bool true) (by simp[results,results6,go_sem]) rfl ⟨rfl,fD hb1 hb2⟩
 ·decide+kernel
theorem deskPlaysWalk(w:World)(v:Value)(p:dG)(t:List Nat)(hp:kK w w v p)(hL:F8 w)(hb:∀n∈t,n<256)(hl:t.length<=140737488355328):
  Calls prog 3 #[v,.string (eY t)] w λe w'=>e=.returned (.bool true)/\Below w w w':=by
 obtain⟨Ab,cb,As,cs,rfl,hP',hBn,hSz,hlb,hls⟩:=o9 hp;have hL':=ah hL;go_enter func3,ntmps3
 go_wp2_with fail;have hb0:Below w w (w.alloc (kD p Ab cb As cs)):=(aj _ _).alloc (ay _) _;have hpl0:iJ (w.alloc (kD p Ab cb As cs)) w 25 [.slice Ab p.dP.length cb,.slice As p.aW.length cs]:=iJ.new _ _ _;generalize w.alloc (kD p Ab cb As cs)=W0 at hb0 hpl0 ⊢
 have y0:=hpl0.cell (j:=0) rfl;have y1:=hpl0.cell (j:=1) rfl;go_wp2_with fail;clear y0 y1;refine(jkz W0 _ p t (hP'.O _ hb0) (hL'.O.up hb0) hb hl).mono ?_
 rintro e W1 ⟨rfl,hb1⟩;have hB1:=fD hb0 hb1;have jg7:=hpl0.below hb1 hpl0.lt;have y0:=jg7.cell (j:=0) rfl;have y1:=jg7.cell (j:=1) rfl;obtain⟨r,hr⟩:∃r,CS p t=r:=⟨_,rfl⟩;rw[hr];go_wp2_with fail;clear y0 y1;refine(jld W1 _ p t (hP'.O _ hB1) hb hl).mono ?_
 rintro e W2 ⟨rfl,hb2⟩;have hB2:=fD hB1 hb2;rw[hr];go_wp2_with fail;refine(jhu W2 (hL'.O.up hB2)).mono ?_
 rintro e W3 ⟨rfl,hb3⟩;have hB3:=fD hB2 hb3;go_wp2_with fail;exact bV (v:=.bool true) (by simp[results,results3,go_sem]) rfl ⟨rfl,hB3⟩
end
end Wh
