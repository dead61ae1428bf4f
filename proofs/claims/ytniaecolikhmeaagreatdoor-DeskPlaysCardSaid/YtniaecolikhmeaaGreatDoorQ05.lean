/- Texts of the claim, joined. -/
import Derived.RangeFuncNested
import Derived.Test.YtniaecolikhmeaaGreatDoorQ01
set_option maxHeartbeats 20000000
set_option maxRecDepth 100000
set_option linter.all false
namespace Wh
open Go Go.RowKit
section
theorem JL{α:Type}{F:Fence}{n:Nat}{P:Program}{g:Operand}{ps:Array Tmp}{assign body:Code}{Q:Exit->Act->World->Prop}{a:Act}{w:World}
  (hro:F.round=none) (h1:1<=n) {gf:Nat} {lb:Array Value} (hg:a.eval g=.func (.func gf) #[] lb) (hFg:F.fn gf) (eg:∀args w,(callFunc gf args).run P w=.ok (.enter gf args) w)
  {encs:α->Array Value} (hps:∀x,(encs x).size=ps.size)
  (I:List α->World->Prop) (hI:OwnFrom w I) (h0:I [] w) (Nx:List α->α->Prop) (S:List α->Prop)
  (hseq:∀(l:Nat) (J:List α->World->Prop) (W:World),Below w w W->(∀pre V,J pre V->I pre V)->AbidesFrom W J->
   (∀pre x V,J pre V->Nx pre x->YieldAt F (n - 1 - 1) P l (encs x) V λe V'=>e=.returned (.bool true)/\J (pre++[x]) V')->J [] W->
   CallsIn F (n - 1) P gf (#[.func (.yield l) #[] #[]]++lb) W λe V=>(∃v,e=.returned v)/\∃xs,S xs/\J xs V)
  (Ax:α->Act->World->Prop) (hAx:∀x a',OwnFrom w (λ(_:Unit) W=>Ax x a' W))
  (wV:∀(l:Nat) (pre:List α) (x:α) (W:World) (K:Act->World->Prop),I pre W->(∀a' W',KeepsFrom w W W'->I pre W'->Ax x a' W'->K a' W')->
   assign.wpIn (F.inRound l) (n - 1 - 1) P (Exit.then K (λ_ _ _=>False)) {tmps:=(ps.zip (encs x)).foldl (λt (p,v)=>t.setIfInBounds p v) a.tmps,defers:=[]} W)
  (hbody:∀(l:Nat) (pre:List α) (x:α) (a':Act) (W:World),w.heap.size<=l->I pre W->Nx pre x->Ax x a' W->
   body.wpIn (F.inRound l) (n - 1 - 1) P (Exit.then (λ_ W'=>KeepsFrom w W W'/\I (pre++[x]) W') (λ_ _ _=>False)) a' W)
  (Ei:∀(D:Nat) (xs:List α) (W:World),w.heap.size<=D->S xs->I xs W->W.heap[D]?=some (.deferred (some []))->Q .normal {a with defers:={target:=.collected D,args:=#[]}::a.defers} W):
  (Code.rangeFunc g ps assign body).wpIn F n P Q a w:=by
 refine wpIn_rangeFunc λfn hfn=>?_
 rw[hro];obtain⟨rec,hrec⟩:∃rec:LoopState->Loop,rec=λst=>{state:=st,pending:=none,fn,tmps:=a.tmps,params:=ps,assign,body,defers:=w.heap.size}:=⟨_,rfl⟩
 have hba:Below w w ((w.alloc (.deferred (some []))).alloc (.loop (rec .ready))):=((aj _ w).alloc (ay _) _).alloc (by simp) _
 have hL:((w.alloc (.deferred (some []))).alloc (.loop (rec .ready))).heap[w.heap.size+1]?=some (.loop (rec .ready)):=by
  have:=World.alloc_heap_new (w.alloc (.deferred (some []))) (.loop (rec .ready));rwa [dK]at this
 have hD:((w.alloc (.deferred (some []))).alloc (.loop (rec .ready))).heap[w.heap.size]?=some (.deferred (some [])):=(oO _ _ _ (by simp)).trans (World.alloc_heap_new w _)
 have hi0:I [] ((w.alloc (.deferred (some []))).alloc (.loop (rec .ready))):=hI.alloc _ (hI.alloc _ h0);have hent:=run_enterLoop_outer (P:=P) (w:=w) fn a.tmps ps assign body;have hsz:((w.alloc (.deferred (some []))).alloc (.loop (rec .ready))).heap.size=w.heap.size+2:=by simp
 have jcX:(Instr.enterLoop fn a.tmps ps assign body none).run P w=.ok (w.heap.size+1,[{target:=.collected w.heap.size,args:=#[]}]) ((w.alloc (.deferred (some []))).alloc (.loop (rec .ready))):=by
  rw[hent,hrec]
 clear hent;generalize (w.alloc (.deferred (some []))).alloc (.loop (rec .ready))=W1 at hba hL hD hi0 hsz jcX
 refine⟨w.heap.size+1,[{target:=.collected w.heap.size,args:=#[]}],W1,{target:=.fn (.func gf) lb,args:=#[.func (.yield (w.heap.size+1)) #[] #[]]},W1,gf,#[.func (.yield (w.heap.size+1)) #[] #[]]++lb,W1,jcX,?_,?_,?_,λ_=>h1,?_⟩
 ·simp only[resolve,hg];simp[go_sem]
 ·intro f' hf';simp[Target.leads]at hf'
  subst hf';exact hFg
 ·simp[invoke,go_sem,eg]
 ·have hturn:∀ {A B:World} {row:Option Nat} {k:Nat} {o:Obj},A.grownBy B row->(∀r,row=some r->W1.heap.size<=r/\∃o:Obj,A.heap[r]?=some o/\o.isWalk=true)->k<w.heap.size+2->A.heap[k]?=some o->B.heap[k]?=some o:=λhg' hr hk ho=>
   (hg'.block _ (bI.1 ho).1 (λe=>by have:=(hr _ e.symm).1;omega)).trans ho
  refine(hseq (w.heap.size+1) (λpre W=>I pre W/\W.heap[w.heap.size+1]?=some (.loop (rec .ready))/\W.heap[w.heap.size]?=some (.deferred (some []))) W1 hba (λ_ _ h=>h.1)
   (λs A B row hs hg' hr=>⟨hI s A B row hs.1 hg' (λr e=>by obtain⟨hB,o,ho,hw⟩:=hr r e;exact⟨by omega,o,ho,Obj.not_cells_of_walk hw⟩),hturn hg' hr (by omega) hs.2.1,hturn hg' hr (by omega) hs.2.2⟩) ?_ ⟨hi0,hL,hD⟩).mono ?_
  ·rintro pre x W ⟨hi,hl,hk⟩ hnx;have hlt:w.heap.size+1<W.heap.size:=(bI.1 hl).1
   have hy:=run_yield (P:=P) (args:=encs x) hl (by rw[hrec];exact hps x)
   rw[hrec]at hy
   refine⟨fn,_,assign,body,hy,roundIn_of_wpIn hfn (wV _ pre x W _ hi ?_)⟩
   clear hy;intro a' Wa hkf hia hax;have hla:=hkf.same _ _ (by omega) hl rfl
   have hka:=hkf.same _ _ (ay _) hk rfl;refine⟨_,run_beginRound hla (by rw[hrec]),?_⟩
   have joz:w.heap.size+1<Wa.heap.size:=(bI.1 hla).1
   have hl2:(Wa.putObj (w.heap.size+1) (.loop {rec .ready with state:=.busy})).heap[w.heap.size+1]?=some (.loop {rec .ready with state:=.busy}):=World.putObj_heap_same joz
   have hk2:(Wa.putObj (w.heap.size+1) (.loop {rec .ready with state:=.busy})).heap[w.heap.size]?=some (.deferred (some [])):=(World.putObj_heap_other (by omega)).trans hka
   refine wpIn_mono (hbody _ pre x a' _ (by omega) (hI.putObj _ hia (by omega) hla rfl) hnx ((hAx x a').putObj (s:=()) _ hax (by omega) hla rfl)) ?_
   rintro e a3 W3 hp;cases e with
   |normal=>
    obtain⟨hk3,hi3⟩:=hp;have hl3:=hk3.same _ _ (by omega) hl2 rfl
    have hd3:=hk3.same _ _ (ay _) hk2 rfl;have hlt3:w.heap.size+1<W3.heap.size:=(bI.1 hl3).1
    have hend:=run_endRound (P:=P) none hl3;refine⟨_,_,hend,rfl,hI.putObj _ hi3 (by omega) hl3 rfl,?_,?_⟩
    ·have:=World.putObj_heap_same (o:=Obj.loop {({rec .ready with state:=.busy}:Loop)with state:=.ready,pending:=none}) hlt3
     rw[hrec]at this ⊢
     exact this
    ·exact(World.putObj_heap_other (by omega)).trans hd3
   |ret=>exact hp.elim
   |exit id=>exact hp.elim
   |goto t=>exact hp.elim
   |panic ch=>exact hp.elim
   |outgrown=>exact hp.elim
  ·rintro e W2 ⟨⟨v,rfl⟩,xs,hS,hi,hl,hk⟩;have hend:=run_endLoop (P:=P) hl (by rw[hrec];simp)
   refine⟨none,_,by rw[hrec]at hend;exact hend,Ei _ xs _ (ay _) hS (hI.putObj _ hi (by omega) hl rfl) ((World.putObj_heap_other (by omega)).trans hk)⟩
end
end Wh
