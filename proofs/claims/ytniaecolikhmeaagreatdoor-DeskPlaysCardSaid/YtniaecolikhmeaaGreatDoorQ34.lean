/- Texts of the claim, joined. -/
import Derived.Maps.OwnIn
import Derived.Test.YtniaecolikhmeaaGreatDoorQ31
set_option maxHeartbeats 20000000
set_option maxRecDepth 100000
set_option linter.all false
namespace Wh
open Go Go.RowKit Go.Shelf Go.Proofs Go.Maps Tryz
section
abbrev Nv(x:Int):Lit:=.int .i64 x
theorem jgb(x:Int):WideAt.IsKeyLit (Nv x):=trivial
structure wM(s:aI)(b g:Nat)(l:List eX)(j:Nat)(D:DataW Unit):Prop where
 map:IsMap D
 keys:∀x:Int,has D (Nv x)=true↔∃i,∃hi:i<s.aA.length,j<=i/\(yM s b g).is s.aA[i]=true/\x=s.aA[i].aC*3+s.aA[i].aK
 vals:∀o k:Nat,k<3->has D (Nv ((o:Int)*3+k))=true->∀z,D.atKey (Nv ((o:Int)*3+k)) z=.lit (.int .i64 (dD s.aA o k b - dD l o k b))
section
variable {s:aI} {b g:Nat} {l:List eX} {j:Nat} {D:DataW Unit}
theorem wM.start:wM s b g s.aA s.aA.length (.map []):=by
 refine⟨⟨_,rfl⟩,λx=>⟨λh=>(by cases h),?_⟩,λo k _ h=>(by cases h)⟩
 rintro⟨i,hi,hj,_⟩;omega
theorem wM.congr{l':List eX}(h:wM s b g l j D)(he:∀o k:Nat,dD l' o k b=dD l o k b):wM s b g l' j D:=⟨h.map,h.keys,λo k hk hh z=>by rw[h.vals o k hk hh z,he]⟩
theorem wM.skip(h:wM s b g l (j+1) D)(hj:j<s.aA.length)(hn:(yM s b g).is s.aA[j]=false):wM s b g l j D:=by
 refine⟨h.map,λx=>(h.keys x).trans ⟨?_,?_⟩,h.vals⟩
 ·rintro⟨i,hi,h1,h2,h3⟩;exact⟨i,hi,by omega,h2,h3⟩
 ·rintro⟨i,hi,h1,h2,h3⟩;refine⟨i,hi,?_,h2,h3⟩
  rcases rH j i with h4|h4
  ·omega
  ·obtain rfl:j=i:=by omega
   rw[hn]at h2
   cases h2
theorem wM.fresh(h:wM s b g l (j+1) D)(hok:iI s.aA=true)(hj:j<s.aA.length)(hi:(yM s b g).is s.aA[j]=true):has D (Nv (s.aA[j].aC*3+s.aA[j].aK))=false:=by
 cases hh:has D (Nv (s.aA[j].aC*3+s.aA[j].aK))
 ·rfl
 ·obtain⟨i,hil,h1,h2,h3⟩:=(h.keys _).1 hh;have hf:=(gI.1 hok).1;have f1:=(nH.1 (hf _ (dh hj))).1;have f2:=(nH.1 (hf _ (dh hil))).1;unfold sJ at f1 f2
  have b1:=(FX.1 hi).1;have b2:=(FX.1 h2).1;have hnd:=JZ hok;have he:yg s.aA[i]=yg s.aA[j]:=by
   unfold yg;simp only[DJ];omega
  have:=(List.getElem_inj (xs:=s.aA.map yg) (i:=i) (j:=j) (h₀:=by simpa using hil) (h₁:=by simpa using hj) hnd).1 (by simpa using he)
  omega
theorem wM.put{o k:Nat}{m:Int}(h:wM s b g l (j+1) D)(hok:iI s.aA=true)(hj:j<s.aA.length)(hi:(yM s b g).is s.aA[j]=true)(ho:s.aA[j].aC=o)(hk:s.aA[j].aK=k)(hk3:k<3)
  (hlk:l.map yg=s.aA.map yg) (hlj:j<l.length) (hl:l[j]=s.aA[j]):wM s b g (l.set j {s.aA[j]with n:=s.aA[j].n - m}) j (D.put (Nv ((o:Int)*3+k)) (.lit (.int .i64 m))):=by
 have hb:=(FX.1 hi).1;have hnd:=JZ hok;have hnl:(l.map yg).Nodup:=by rw[hlk];exact hnd
 have hka:=Ez hnd hj;rw[ho,hk,hb]at hka
 have hset:∀o' k':Nat,dD (l.set j {s.aA[j]with n:=s.aA[j].n - m}) o' k' b=if o'=o/\k'=k then s.aA[j].n - m else dD l o' k' b:=λo' k'=>by
  have:=Xn hnl hlj (s.aA[j].n - m) o' k' b;rw[hl]at this
  rw[this,ho,hk,hb];by_cases hh:o'=o/\k'=k
  ·rw[aB hh,aB ⟨by omega,by omega,rfl⟩]
  ·rw[au hh,au (λh2=>hh ⟨by omega,by omega⟩)]
 have hne:∀x:Int,x≠(o:Int)*3+k->Nv x≠Nv ((o:Int)*3+k):=λx hx he=>by
  injection he with _ he
  exact hx he
 refine⟨IsMap.put h.map _ _,λx=>?_,λo' k' hk' hh z=>?_⟩
 ·by_cases hx:x=(o:Int)*3+k
  ·subst hx;rw[has_put_same h.map (jgb _)];exact⟨λ_=>⟨j,hj,ay _,hi,by rw[ho,hk]⟩,λ_=>rfl⟩
  ·rw[has_put_other (hne x hx),h.keys x];constructor
   ·rintro⟨i,hil,h1,h2,h3⟩;exact⟨i,hil,by omega,h2,h3⟩
   ·rintro⟨i,hil,h1,h2,h3⟩;refine⟨i,hil,?_,h2,h3⟩
    rcases rH j i with h4|h4
    ·omega
    ·obtain rfl:j=i:=by omega
     rw[ho,hk]at h3
     exact absurd h3 hx
 ·by_cases hx:(o':Int)*3+k'=(o:Int)*3+k
  ·obtain rfl:o'=o:=by omega
   obtain rfl:k'=k:=by omega
   rw[atKey_put_same h.map (jgb _),hset,aB ⟨rfl,rfl⟩,hka];congr 3
   omega
  ·rw[has_put_other (hne _ hx)]at hh
   rw[atKey_put_other (hne _ hx),h.vals o' k' hk' hh,hset,au (λh2=>hx (by rw[h2.1,h2.2]))]
end
def ksH(b mb:Nat)(V:SV)(j:Nat):Prop:=j=b\/V.aA.ownBlock=some j\/j=mb\/∃o,o<V.aH.length/\(V.aK o).ownBlock=some j
structure VA(w:World)(aT b mb:Nat)(V:SV)(s:aI)(bn g:Nat)(ov:Int)(l:List eX)(j:Nat)(L:List (Nat×Obj))(W:World):Prop where
 bx:Bx W aT b 152 (Gy bn g ov (.map (some mb))) V (Oh s bn l)
 held:pV L W
 st:Step (ksH b mb V) w W
 mp:∃D,wM s bn g l j D/\W.ownsMap prog 3 (plainElem prog 3) mb (s.aA.length - j) D
section
variable {w W W':World} {aT b mb bn g j:Nat} {V:SV} {s:aI} {ov:Int} {l:List eX} {L:List (Nat×Obj)}
theorem VA.own{B:Nat}(hL:∀x∈L,x.1<B)(hB:w.heap.size<=B)(hmb:mb<w.heap.size){rw_:Option Nat}(hs:VA w aT b mb V s bn g ov l j L W)
  (hg:W.grownBy W' rw_) (hr:∀r,rw_=some r->B<=r/\∃o:Obj,W.heap[r]?=some o/\o.isCells=false):VA w aT b mb V s bn g ov l j L W':=
 ⟨hs.bx.wS hg λr e=>(hr r e).2,pV.from_ hL () W W' rw_ hs.held hg hr,hs.st.trans' (Step.nG (ks:=λk=>rw_=some k) hg λk e=>e) λk hk e=>by have:=(hr k e).1;omega,hs.mp.elim λD h=>⟨D,h.1,h.2.kept hg λhe=>by have:=(hr mb he.symm).1;omega⟩⟩
theorem VA.below(h:VA w aT b mb V s bn g ov l j L W)(hb:Below W W W'):VA w aT b mb V s bn g ov l j L W':=
 ⟨h.bx.below hb,λx hx=>(hb.block x.1 (h.held.lt x hx)).trans (h.held x hx),h.st.trans (.of_below hb),h.mp.elim λD h=>⟨D,h.1,h.2.kept (kW (row:=none) hb) (by simp)⟩⟩
theorem VA.skip(h:VA w aT b mb V s bn g ov l (j+1) L W)(hj:j<s.aA.length)(hn:(yM s bn g).is s.aA[j]=false):VA w aT b mb V s bn g ov l j L W:=
 ⟨h.bx,h.held,h.st,h.mp.elim λD h=>⟨D,h.1.skip hj hn,h.2.mono (by omega)⟩⟩
end
theorem BQ{ks:Nat->Prop}{w w':World}{k:TypeId}{R:Value->Option (DataW Unit×List MemPlace)}{mb n:Nat}{D:DataW Unit}(h:w.ownsMap prog k R mb n D)(hs:Step ks w w')(hn:¬ks mb):w'.ownsMap prog k R mb n D:=by
 obtain⟨es,clock,hb,F,h1,h2⟩:=h;exact⟨es,clock,hs.heap hb hn,F,h1,h2⟩
theorem DZ{w:World}{k:TypeId}{R:Value->Option (DataW Unit×List MemPlace)}{mb n g:Nat}{D:DataW Unit}{t:TypeId}{cur:List Value}(h:w.ownsMap prog k R mb n D)(hb:iJ w g t cur):mb≠g:=λhe=>by
 obtain⟨es,clock,h1,_⟩:=h;rw[he,show w.heap[g]?=_ from hb]at h1
 injection h1 with h1
 cases h1
theorem KX{w:World}{k:TypeId}{R:Value->Option (DataW Unit×List MemPlace)}{mb n:Nat}{D:DataW Unit}(h:w.ownsMap prog k R mb n D):∃o:Obj,w.heap[mb]?=some o/\o.isCells=false:=by
 obtain⟨es,clock,h1,_⟩:=h;exact⟨_,h1,rfl⟩
theorem YL{B:Nat}{ks:Nat->Prop}{W W':World}(h:Step ks W W')(hk:∀j,ks j->j<B):KeepsFrom B W W':=⟨h.size,λk o hB hh _=>h.heap hh λhj=>by have:=hk k hj;omega⟩
theorem jaR:Keyed prog 3:=int_keyed underlying3
theorem jfH(w:World):(zeroValue 3).run prog w=.ok (zI) w:=by kernel_rfl
theorem jiU{x:Int}(h: -9223372036854775808<=x/\x<=9223372036854775807):keyOf prog 3 (x)=some (Nv x):=keyOf_int_mk underlying3 (WalkArith.wf_i64 h)
end
section
attribute [local go_sem] aV jF iY jI
attribute [local go_sem] Oper.semAt_some
theorem joS(W:World)(x:eX):Calls prog 159 (#[uK x]++#[]) W λe W'=>e=.returned (.bool (x.n==0))/\Below W W W':=by
 have hb0:Below W W (W.alloc (nC x)):=(aj _ _).alloc (ay _) _;change Calls prog 159 #[uK x] W _;unfold uK;go_enter func159,ntmps159
 go_wp2_with fail;go_ret
 exact⟨rfl,hb0⟩
theorem jks:Enters prog 159:=enters_of func159 (by kernel_rfl) rfl
theorem JK{l₀ n0:Nat}{ops:Array Oper}{rest:List Oper}{o:Oper}{a:Act}{w:World}{Q:Exit->Act->World->Prop}(hgd:o.guard=none)(x y:Operand)(ho:o.op=.store 3 x y)(hn:o.dst=none)(b off:Nat)(u:Value)(q:Int)
  (hx:a.eval x=.pointer (some ⟨b,off,none⟩)) (hy:a.eval y=q) (hc:w.cell? ⟨b,off,none⟩=some u) (hf:w.frozen? ⟨b,off,none⟩=false)
  (h:∀w',w.setCell ⟨b,off,none⟩ (q)=w'->wpListIn (Fence.wide.inRound l₀) n0 prog ops Q rest a w'):wpListIn (Fence.wide.inRound l₀) n0 prog ops Q (o::rest) a w:=
 wpListIn_plain hgd λK hK=>by
  have h3:=h _ rfl;clear h;unfold Oper.wpIn;refine⟨λ_ _=>trivial,?_⟩
  rw[Oper.semAt_plain _ _ _ (λc=>by rw[ho];intro e;cases e)]
  simp only[execOp,ho,hx,hy];go_simp
  rw[hn]at*
  exact hK _ _ h3
def jhI(aT b mb:Nat)(V:SV)(s:aI)(bn g:Nat)(v:Int)(w w':World):Prop:=∃(V':SV) (ov:Int) (D:DataW Unit),V'={V with aA:=V'.aA}/\
 Bx w' aT b 152 (Gy bn g ov (.map (some mb))) V' (Oh s bn ((yM s bn g).rest s.aA v))/\Step (ksH b mb V) w w'/\wM s bn g ((yM s bn g).rest s.aA v) 0 D/\w'.ownsMap prog 3 (plainElem prog 3) mb s.aA.length D
theorem jmx(w:World){aT b mb:Nat}{V:SV}{s:aI}{bn g:Nat}{v:Int}(hB:Bx w aT b 152 (Gy bn g v (.map (some mb))) V s)(hb:aT<=b)(hmb:mb<w.heap.size)(hmbb:aT<=mb)(hmap:w.ownsMap prog 3 (plainElem (H:=Unit) prog 3) mb 0 (.map []))
  (hok:iI s.aA=true) (hv: -100000<=v/\v<=100000) (hin:∀i (hi:i<s.aA.length),∃o k:Nat,s.aA[i].aC=o/\s.aA[i].aK=k/\o<s.ak.length/\k<(s.aC o).aH.length)
  (hbk:∀o k:Nat,o<s.ak.length->k<(s.aC o).aH.length->0<=(s.aK o k).eU/\(s.aK o k).eU<=200):
  Calls prog 110 #[.pointer (some b)] w λe w'=>e=.returned (.tuple #[])/\jhI aT b mb V s bn g v w w':=by
 have hB':=ah hB;have hB0:=hB;obtain⟨k0,k1,k2,k3,k4,k5,k6,k7,k8⟩:=V;obtain⟨Ah,ch,hvh⟩:=hB.own.aA.isSlice;obtain rfl:k2=.slice Ah s.aA.length ch:=hvh;obtain⟨c0,c1,c2,c3,c4,c5,c6⟩:=hB.cells;simp only at c0 c1 c2 c3 c4 c5 c6
 have hbl:=hB.lt;have h72:=qH hok;clear hB hB0;refine(iy (n:=9)).1 ?_
 refine callsIn_of_wp_marks func110 rfl trivial ?_ rfl
 simp only[ntmps110,iR,bP,dQ,Nat.reduceAdd,Nat.reduceSub,gW,iG,jh,iM,fJ,gG];refine qY.2 ?_
 go_wp2_with fail;refine((iy (n:=8)).1 (jdO 8 _ _ _ _)).mono ?_
 rintro e W1 ⟨rfl,rfl⟩;go_wp2_with fail;clear c0 c1 c2 c3 c4 c5 c6;obtain⟨V,hV⟩:∃V:SV,V=⟨k0,k1,.slice Ah s.aA.length ch,k3,k4,k5,k6,k7,k8⟩:=⟨_,rfl⟩;obtain⟨L,hL⟩:∃L:List (Nat×Obj),L=[(w.heap.size,Obj.cells #[.pointer (some b)] 149 (0,0)),(w.heap.size+1,Obj.cells #[.slice Ah s.aA.length ch] 37 (0,0))]:=⟨_,rfl⟩;have hba:Below w w ((w.alloc (.cells #[.pointer (some b)] 149)).alloc (.cells #[.slice Ah s.aA.length ch] 37)):=((aj _ _).alloc (ay _) _).alloc (by simp) _
 have hH0:pV L ((w.alloc (.cells #[.pointer (some b)] 149)).alloc (.cells #[.slice Ah s.aA.length ch] 37)):=by
  intro x hx;rw[hL]at hx
  simp at hx
  rcases hx with rfl|rfl
  ·exact(qX (by simp)).trans (oh rfl)
  ·exact oh (by simp)
 have hs2:((w.alloc (.cells #[.pointer (some b)] 149)).alloc (.cells #[.slice Ah s.aA.length ch] 37)).heap.size=w.heap.size+1+1:=by simp
 have hI0:VA w aT b mb V s bn g v s.aA s.aA.length L ((w.alloc (.cells #[.pointer (some b)] 149)).alloc (.cells #[.slice Ah s.aA.length ch] 37)):=
  ⟨by rw[jjI,hV];exact hB'.O.below hba,hH0,.of_below hba,_,wM.start,by rw[uV];exact hmap.kept (kW (row:=none) hba) (by simp)⟩
 generalize (w.alloc (.cells #[.pointer (some b)] 149)).alloc (.cells #[.slice Ah s.aA.length ch] 37)=w2 at hba hH0 hs2 hI0 ⊢
 have jhk:∀x∈L,x.1<w2.heap.size:=hH0.lt;have hw2:w.heap.size<=w2.heap.size:=hba.size;have wU:∀x∈s.aA,0<=(yM s bn g).num x:=λx hx=>by have:=(nH.1 ((gI.1 hok).1 x hx)).2.1;show 0<=x.n;omega
 have hks:=ah (show ∀j,ksH b mb V j->j<w.heap.size from λj hj=>by
  rcases hj with rfl|h|rfl|⟨o,ho,h⟩
  ·exact hbl
  ·rw[hV]at h
   exact(hB'.O.own.aA.size j h).2
  ·exact hmb
  ·rw[hV]at h ho
   exact((hB'.O.own.aK o (by rw[<- hB'.O.own.llen];exact ho)).size j h).2)
 refine(qY (n:=9)).1 ?_
 refine YJ (s1:=2) (s2:=3) 9 (by omega) (w.heap.size+1) Ah ch s.aA (by omega) rfl
  (λk W=>k<=s.aA.length/\VA w aT b mb V s bn g ((yM s bn g).mid s.aA v (s.aA.length - k)).2 ((yM s bn g).mid s.aA v (s.aA.length - k)).1 (s.aA.length - k) L W)
  (λk X Y row hs hg hr=>⟨hs.1,hs.2.own jhk hw2 hmb hg hr⟩) ⟨aN _,by rw[Nat.sub_zero,iw.jf3];exact hI0⟩ ?hR ?hsz ?wV ?hbody ?Ei
 case hR=>
  intro k W ⟨hk,hI⟩;refine⟨Boxed.cell (show Boxed W (w.heap.size+1) 37 (.slice Ah s.aA.length ch)from hI.held (w.heap.size+1,Obj.cells #[.slice Ah s.aA.length ch] 37 (0,0)) (by rw[hL];simp)),λi hi=>?_⟩
  have lZ:=iw.P9 (C:=yM s bn g) s.aA v (s.aA.length - k);obtain⟨gm,c',cur,e1,_,_,q0,q1,q2,q3⟩:=hI.bx.own.yL (k:=i) (by show i<(iw.mid _ _ _ _).1.length;rw[lZ];omega)
  have he:hold ((yM s bn g).mid s.aA v (s.aA.length - k)).1 i=hold s.aA i:=by
   unfold hold;rw[fK,iw.jaP v (i:=i) (by omega) (by omega),fK,bQ (by omega)]
  rw[hV]at e1
  injection e1 with e1
  change W.cell? _=some (.int .i64 (hold ((yM s bn g).mid s.aA v (s.aA.length - k)).1 i).aC)at q0
  change W.cell? _=some (.int .i64 (hold ((yM s bn g).mid s.aA v (s.aA.length - k)).1 i).aK)at q1
  change W.cell? _=some (.int .i64 (hold ((yM s bn g).mid s.aA v (s.aA.length - k)).1 i).bin)at q2
  change W.cell? _=some (.int .i64 (hold ((yM s bn g).mid s.aA v (s.aA.length - k)).1 i).n)at q3
  rw[he]at q0 q1 q2 q3
  exact⟨gm,e1,q0,q1,q2,q3⟩
 case hsz=>
  intro k W ⟨hk,hI⟩;have:=hI.held.lt (w.heap.size+1,Obj.cells #[.slice Ah s.aA.length ch] 37 (0,0)) (by rw[hL];simp)
  simp only at this
  omega
 case wV=>
  intro l x W K hK;simp only[aQ,bG,bH]at hK ⊢
  unfold uK at hK ⊢
  gi_wp2
  exact hK
 case hbody=>
  intro l k x X W hxk ⟨hk,hI⟩ hbX hX;simp only[aQ,bG,bH];unfold uK;have hxl:x<s.aA.length:=by omega
  have ek:s.aA.length - k=x+1:=by omega
  have ek1:s.aA.length - (k+1)=x:=by omega
  rw[ek]at hI
  rw[ek1];have hmx:hold s.aA x=s.aA[x]:=by unfold hold;simp[hxl]
  have hfx:=(nH.1 ((gI.1 hok).1 _ (dh hxl)));have hNx:=hfx.2;have hkx:=hfx.1;unfold sJ at hkx
  obtain⟨o,kk,hox,hlx,ho,hkk⟩:=hin x hxl;have hokk:o<=3/\kk<=2:=by omega
  have hov:=iw.Xe wU v (x+1);have Jj:=λh=>iw.jiN (C:=yM s bn g) v hxl h
  have MF:=λh=>iw.jf4 (C:=yM s bn g) v hxl h
  have hat:=iw.jaP (C:=yM s bn g) v (i:=x) (j:=x+1) hxl (by omega)
  have hml:=iw.P9 (C:=yM s bn g) s.aA v (x+1);have hmk:=iw.jf5 (C:=yM s bn g) yg (λ_ _=>rfl) s.aA v (x+1)
  obtain⟨M,ov,hmid⟩:∃M ov,(yM s bn g).mid s.aA v (x+1)=(M,ov):=⟨_,_,rfl⟩;rw[hmid]at hI hov Jj MF hat hml hmk
  simp only at hI hov Jj hat hml hmk
  have hMx:x<M.length:=by omega
  have hML:M[x]=s.aA[x]:=by
   rw[bQ hMx]at hat
   exact lF hat
  have hI':=ah hI;clear hmid hat hI;have x0:=hbX.cell (j:=0) rfl;have x1:=hbX.cell (j:=1) rfl;have x2:=hbX.cell (j:=2) rfl;rw[hmx]at x0 x1 x2 ⊢
  rw[hox]at x0
  rw[hlx]at x1
  have y0:W.cell? w=some (.pointer (some b)):=Boxed.cell (show Boxed W w 149 (.pointer (some b))from hI'.O.held (w.heap.size,Obj.cells #[.pointer (some b)] 149 (0,0)) (by rw[hL];simp))
  have z1:=hI'.O.bx.box.cell (j:=7) rfl;have z2:=hI'.O.bx.box.cell (j:=8) rfl;have l0:=hI'.O.held.lt (w.heap.size,Obj.cells #[.pointer (some b)] 149 (0,0)) (by rw[hL];simp)
  simp only at l0
  have lb:b<W.heap.size:=hI'.O.bx.lt;have lX:=hbX.lt;have ho':o<(Oh s bn M).ak.length:=by show o<(hdO s bn M).length;rw[Tf];exact ho
  have hkk':kk<((Oh s bn M).aC o).aH.length:=by rw[Uj ho];exact hkk
  obtain⟨go,co,jkD,eo,hgo,OY,oc0,oc1⟩:=hI'.O.bx.own.bK ho';obtain⟨gl,cl,curl,el,hgl,jjX,lc0,lc1,lc2,lc3⟩:=hI'.O.bx.own.fG ho' hkk';have hlo:(Oh s bn M).ak.length=s.ak.length:=Tf;have hll:((Oh s bn M).aC o).aH.length=(s.aC o).aH.length:=Uj ho;have hln:=jcY (b:=(bn:Int)) (l:=M) ho hkk;rw[hlo]at eo
  rw[hll]at el
  rw[hln]at lc0 lc3
  simp only at lc0 lc3
  rw[el]at oc1
  have z0:=hI'.O.bx.cells.2.1;rw[eo]at z0
  have hoi:(o:Int)<(s.ak.length:Int):=by omega
  have hki:(kk:Int)<((s.aC o).aH.length:Int):=by omega
  have jrY:=OY.lt;have jjC:=jjX.lt;have jr5:=ah el;have jjw:=ah hln;have hlc3:=ah lc3;have hmk':=ah hmk;have hml':=ah hml;have jdb:=ah hML;have jeR:=ah hox;have jeX:=ah hlx;clear hlo hll hln eo el lc1 lc2 lc3 oc0 hmk hml hML hox hlx ho' hkk';have q1:=λo d os=>cZ (w:=W) (b:=X) lX o d os
  have q2:=λo d os=>cZ (w:=W) (b:=w.heap.size) l0 o d os
  have q3:=λo d os=>cZ (w:=W) (b:=b) lb o d os
  have q4:=λo d os=>cZ (w:=W) (b:=go) jrY o d os
  have q5:=λo d os=>cZ (w:=W) (b:=gl) jjC o d os
  have jma:=ah hbX;clear hbX;gi_wp2_with fail
  refine uZ (by kernel_rfl) (by kernel_rfl) (by kernel_rfl) ?_
  repeat(go_big_quiet_step (fail))
  refine wpQuiet_nil ?_
  intro W5 hw5;have hb5:=dN hw5;clear hw5;clear q1 q2 q3 q4 q5 oc1 z0;have hI5:=ah (hI'.O.below hb5);have jsn:=ah (jma.O.below hb5 lX);have l05:=aJ l0 hb5.size;have lb5:=aJ lb hb5.size;have lX5:=aJ lX hb5.size;have jr1:=aJ jjC hb5.size;have x2:=(hb5.cell (p:=⟨X,2,none⟩) lX).trans x2;have y0:=(hb5.cell (p:=w) l0).trans y0;have z1:=(hb5.cell (p:=⟨b,7,none⟩) lb).trans z1;have z2:=(hb5.cell (p:=⟨b,8,none⟩) lb).trans z2;have lc0:=(hb5.cell (p:=⟨gl,kk*4,none⟩) jjC).trans lc0;have jjW:=ah (jjX.below hb5 jjC);clear hI' jma l0 lb lX jjC jrY OY jjX x0 x1;have q1:=λo d os=>cZ (w:=W5) (b:=X) lX5 o d os
  have q2:=λo d os=>cZ (w:=W5) (b:=w.heap.size) l05 o d os
  have q3:=λo d os=>cZ (w:=W5) (b:=b) lb5 o d os
  have q5:=λo d os=>cZ (w:=W5) (b:=gl) jr1 o d os
  by_cases h1:s.aA[x].bin=bn
  ·have t1:(s.aA[x].bin !=(bn:Int))=false:=by simpa using h1
   by_cases h2:(s.aK o kk).dW=g
   ·have t2:((s.aK o kk).dW !=(g:Int))=false:=by simpa using h2
    have his:(yM s bn g).is s.aA[x]=true:=FX.2 ⟨h1,by rw[jeR.O,jeX.O];exact h2⟩
    have hst:=ah (Jj his);have ja4:=ah his;clear Jj MF h1 h2 his;gi_wp2_with fail
    refine uZ (by kernel_rfl) (by kernel_rfl) (by kernel_rfl) ?_
    repeat(go_big_quiet_step (fail))
    refine wpQuiet_nil ?_
    intro W6 hw6;have hb6:=dN hw6;clear hw6;clear q1 q2 q3 q5 t1 t2;have ZQ:=ah (hI5.O.below hb6);have jj3:=ah (jsn.O.below hb6 lX5);have hblkl6:=ah (jjW.O.below hb6 jr1);have y6:=(hb6.cell (p:=w) l05).trans y0;have x3:=jj3.O.cell (j:=3) rfl;rw[hmx]at x3
    have juZ:=fD hb5 hb6;clear hI5 jsn jjW y0 z1 z2 lc0 x2;gi_wp2_with fail
    refine⟨trivial,CallsIn.inRound l (iy.2 ((jkE W6 s.aA[x].n ZQ.O.bx (by omega) (by omega)).mono ?_))⟩
    rintro e W7 ⟨rfl,hx7,hs7⟩;have hst':=hst.O;change(yM s bn g).mid s.aA v x=(M.set x {s.aA[x]with n:=s.aA[x].n - iw.less ov s.aA[x].n},ov - iw.less ov s.aA[x].n)at hst'
    obtain⟨n0,hn0⟩:∃n0,s.aA[x].n=n0:=⟨_,rfl⟩;rw[hn0]at hst' hx7 x3 hNx ⊢
    obtain⟨mm,hmm⟩:∃mm,iw.less ov n0=mm:=⟨_,rfl⟩;have jlU:0<=mm/\mm<=n0:=by rw[<- hmm];unfold iw.less;omega
    rw[hmm]at hst' hx7 ⊢
    have hst2:=ah hst';have jov:=ah hn0;clear hst hst' hn0 hmm;have l06:=aJ l05 hb6.size;have y7:=(hs7.cell (p:=w) l06 (by show ¬w.heap.size=b;omega)).trans y6
    obtain⟨gh,c',cur,e1,juJ,jl7,_,_,_,p3⟩:=ZQ.O.bx.own.yL (k:=x) (show x<M.length by have:=hml'.O;omega)
    have jno:(Oh s bn M).aA.length=s.aA.length:=hml'.O;rw[jno,hV]at e1
    injection e1 with e1 e2 e3
    clear e2 e3 jno;subst e1;have hgM:hold (Oh s bn M).aA x=s.aA[x]:=by
     show hold M x=_;rw[<- jdb.O];exact iZ (by have:=hml'.O;omega)
    rw[hgM,jov.O]at p3
    have jjF:gh≠b:=iJ.ne jl7 ZQ.O.bx.box (by decide)
    have jo3:=hs7.blk jl7 jjF;have p37:=(hs7.cell (p:=⟨gh,x*4+3,none⟩) jl7.lt jjF).trans p3;have z7:W7.cell? ⟨b,2,none⟩=some (.slice (some gh) s.aA.length ch):=by
     have:=hx7.cells.2.2.1;rw[hV]at this
     exact this
    have hxi:(x:Int)<(s.aA.length:Int):=by omega
    have hwn:IntKind.i64.wrap (n0 - mm)=n0 - mm:=aP _ (by omega)
    have zT:=ah hx7;have jlO:=ah hs7;clear hx7 hs7 jl7 p3 hgM;gi_wp2_with (refine JK rfl (.tmp 61) (.tmp 59) rfl rfl gh (x*4+3) _ (n0 - mm) rfl rfl p37 (jo3.frozen _) (λw8 hw8=>?_);refine bD ?_)
    unfold Hid;have jkc:x<M.length:=by have:=hml'.O;omega
    have YU:dX W7 aT ⟨k0,k1,.slice (some gh) s.aA.length ch,k3,k4,k5,k6,k7,k8⟩ (Oh s bn M):=by
     have:=zT.O.own;rw[hV]at this
     exact this
    obtain⟨o1,hg1⟩:=Own.store YU.aA (λ_=>rfl) (i:=x) jkc (show 3<4 by omega) (y:={s.aA[x]with n:=n0 - mm}) (u:=.int .i64 (n0 - mm)) (by
     show iD _=(iD (M[x]'jkc)).set 3 _;rw[jdb.O];rfl)
    rw[hw8]at o1 hg1
    have Yr:dX w8 aT ⟨k0,k1,.slice (some gh) s.aA.length ch,k3,k4,k5,k6,k7,k8⟩ {Oh s bn M with aA:=M.set x {s.aA[x]with n:=n0 - mm}}:=YU.VW hg1 o1
    have joW:iJ w8 b 152 (V.cells++Gy bn g (ov - mm) (.map (some mb))):=zT.O.box.grown hg1 (by intro he;injection he with he;exact jjF he.symm)
    have hs8:Step (ksH b mb V) W6 w8:=(jlO.O.mono λj hj=>.inl hj).trans (Step.nG hg1 λj hj=>.inr (.inl (by rw[hV,<- hj];rfl)))
    have hm8:∃D,wM s bn g M (x+1) D/\w8.ownsMap prog 3 (plainElem prog 3) mb (s.aA.length - (x+1)) D:=by
     obtain⟨D,h1,h2⟩:=ZQ.O.mp;have h3:=BQ h2 jlO.O (λhe=>DZ h2 ZQ.O.bx.box he)
     exact⟨D,h1,h3.kept hg1 (by intro he;injection he with he;exact DZ h3 jo3 he)⟩
    have y8:=(hg1.block w (aJ l06 jlO.O.size) (by intro he;injection he with he;have:=(hB'.O.own.aA.size gh rfl).2;omega))
    have y8':w8.cell? w=some (.pointer (some b)):=by
     have:w8.cell? w=W7.cell? ⟨w.heap.size,0,none⟩:=by unfold World.cell?;rw[y8]
     rw[this];exact y7
    have hkz:dD s.aA o kk bn - dD M o kk bn=0:=by
     have h1:=Ez (JZ hok) hxl;have h2:=Ez (l:=M) (by rw[hmk'.O];exact JZ hok) jkc
     rw[jdb.O]at h2
     have h3:=(FX.1 ja4.O).1;rw[jeR.O,jeX.O,h3]at h1 h2
     omega
    have hbk0:=hbk o kk ho hkk;have hgx:yg s.aA[x]=yg s.aA[x]:=rfl;have jka:(V.aK o)=.slice (some gl) (s.aC o).aH.length cl:=jr5.O;have hol:o<({Oh s bn M with aA:=M.set x {s.aA[x]with n:=n0 - mm}}:aI).ak.length:=by show o<(hdO s bn M).length;rw[Tf];exact ho
    have hkl:kk<(aI.aC {Oh s bn M with aA:=M.set x {s.aA[x]with n:=n0 - mm}} o).aH.length:=by
     show kk<((Oh s bn M).aC o).aH.length;rw[Uj ho];exact hkk
    have xK:aI.aK {Oh s bn M with aA:=M.set x {s.aA[x]with n:=n0 - mm}} o kk={s.aK o kk with eU:=(s.aK o kk).eU+(dD s.aA o kk bn - dD M o kk bn)}:=jjw.O
    rw[hkz,je]at xK
    rw[hV]at jka
    obtain⟨YR,_,_,_,lc8⟩:=Yr.tJ hol hkl jka;rw[xK]at lc8
    obtain⟨curl8,jl5⟩:=jlC Yr hol hkl jka;have jrZ:gl≠b:=iJ.ne jl5 joW (by decide)
    have hwb:IntKind.i64.wrap ((s.aK o kk).eU+mm)=(s.aK o kk).eU+mm:=aP _ (by omega)
    have jbe:=ah Yr;have jsa:=ah joW;have jud:=ah hs8;have juo:=ah hm8;have joA:=ah xK;have jsD:=ah jka;have jux:=ah hkz;clear YU o1 hg1 Yr joW hs8 hm8 y8 hgx hw8 zT jlO y7 z7 p37 jo3 xK jka hkz hwn;gi_wp2_with (refine JK rfl (.tmp 69) (.tmp 67) rfl rfl gl (kk*4+3) _ ((s.aK o kk).eU+mm) rfl rfl lc8 (jl5.frozen _) (λw9 hw9=>?_);refine bD ?_)
    unfold Hid;obtain⟨wO,jg⟩:=jbe.O.mD hol hkl jsD.O (show 3<4 by omega) (y:={s.aK o kk with eU:=(s.aK o kk).eU+mm}) (u:=.int .i64 ((s.aK o kk).eU+mm)) (by rw[joA.O];rfl)
    rw[hw9]at wO jg
    have hdst:Oh s bn (M.set x {s.aA[x]with n:=n0 - mm})=({Oh s bn M with aA:=M.set x {s.aA[x]with n:=n0 - mm}}:aI).mD o kk {s.aK o kk with eU:=(s.aK o kk).eU+mm}:=by
     have:=jjH (s:=s) (b:=bn) (l:=M) (j:=x) (o:=o) (k:=kk) (m:=mm) (by rw[hmk'.O];exact JZ hok) jkc (by rw[jdb.O];exact jeR.O) (by rw[jdb.O];exact jeX.O) (by rw[jdb.O];exact(FX.1 ja4.O).1) ho hkk
     rw[jdb.O,jov.O]at this
     rw[this,jjw.O,jux.O,je]
    have AA:iJ w9 b 152 (V.cells++Gy bn g (ov - mm) (.map (some mb))):=jsa.O.grown jg (by intro he;injection he with he;exact jrZ he.symm)
    have Gq:Bx w9 aT b 152 (Gy bn g (ov - mm) (.map (some mb))) V (Oh s bn (M.set x {s.aA[x]with n:=n0 - mm})):=⟨AA,by rw[hV,hdst];exact wO,jgv⟩
    have hs9:Step (ksH b mb V) W6 w9:=jud.O.trans (Step.nG jg λj hj=>.inr (.inr (.inr ⟨o,by rw[ZQ.O.bx.own.llen];show o<(hdO s bn M).length;rw[Tf];exact ho,by rw[jr5.O,<- hj];rfl⟩)))
    have hm9:∃D,wM s bn g M (x+1) D/\w9.ownsMap prog 3 (plainElem prog 3) mb (s.aA.length - (x+1)) D:=by
     obtain⟨D,h1,h2⟩:=juo.O;exact⟨D,h1,h2.kept jg (by intro he;injection he with he;exact DZ h2 jl5 he)⟩
    have jrg:=aJ l05 hb6.size;have lX6:=aJ lX5 hb6.size;have y9:=(hs9.cell (p:=w) jrg (λh=>by have:=hks.O _ h;simp only at this;omega)).trans y6
    have x09:=(hs9.cell (p:=X) lX6 (λh=>by have:=hks.O _ h;simp only at this;omega)).trans (jj3.O.cell (j:=0) rfl)
    have x19:=(hs9.cell (p:=⟨X,1,none⟩) lX6 (λh=>by have:=hks.O _ h;simp only at this;omega)).trans (jj3.O.cell (j:=1) rfl)
    have z9:=AA.cell (j:=10) rfl;rw[hmx,jeR.O]at x09
    rw[hmx,jeX.O]at x19
    have jus:w.heap.size<w9.heap.size:=aJ jrg hs9.size;have jrT:X<w9.heap.size:=aJ lX6 hs9.size;have juw:b<w9.heap.size:=AA.lt;have hH9:pV L w9:=λy hy=>hs9.heap (ZQ.O.held y hy) (λh=>by
     have:=hks.O _ h;rw[hL]at hy
     simp at hy
     rcases hy with rfl|rfl<;>simp only at this<;>omega)
    have Eh:=ah Gq;have juc:=ah hs9;have jun:=ah hm9;have jsP:=ah hH9;have hk3:kk<3:=by omega
    have hw1:IntKind.i64.wrap ((o:Int)*3)=(o:Int)*3:=aP _ (by omega)
    have jn6:IntKind.i64.wrap ((o:Int)*3+kk)=(o:Int)*3+kk:=aP _ (by omega)
    have hw3:IntKind.i64.wrap mm=mm:=aP _ (by omega)
    clear wO jg AA Gq hs9 hm9 hH9 hdst hw9 lc8 jl5 y8' hwb y6 x3 jkc;gi_wp2_with fail
    obtain⟨D,hD1,hD2⟩:=jun.O;have yg:keyOf prog 3 (.int .i64 ((o:Int)*3+kk))=some (Nv ((o:Int)*3+kk)):=jiU (by omega)
    have hfresh:has D (Nv ((o:Int)*3+kk))=false:=by
     have:=hD1.fresh hok hxl ja4.O;rw[jeR.O,jeX.O]at this
     exact this
    have hlook:∀w',Below w9 w9 w'->(Instr.lookup 150 (.map (some mb)) (.int .i64 ((o:Int)*3+kk)) false).run prog w'=.ok (zI) w':=λw' hb=>by
     obtain⟨c,h1,h2,_⟩:=(hD2.kept (kW (row:=none) hb) (by simp)).lookup_int jaR underlying150 underlying3 (jfH w') yg
     rw[atKey_of_not_has hfresh]at h2
     injection h2 with h2
     injection h2 with _ h2
     rw[<- h2]at h1
     exact h1
    have hlook':=ah hlook;have hfresh':=ah hfresh;clear hlook hfresh;refine Fq (by kernel_rfl) (λh=>by obtain⟨_,_,h⟩:=h;exact h) (by kernel_rfl) (jbw 13 [
     λg' _=>g' 70=.pointer (some b),λg' _=>g' 71=.pointer (some b),λg' _=>g' 72=.pointer (some ⟨b,10,none⟩),λg' _=>g' 73=.map (some mb),λg' _=>g' 74=.pointer (some X),λg' _=>g' 75=o,λg' _=>g' 76=.int .i64 ((o:Int)*3),λg' _=>g' 77=.pointer (some ⟨X,1,none⟩),λg' _=>g' 78=kk,λg' _=>g' 79=.int .i64 ((o:Int)*3+kk),λg' _=>g' 80=zI,λg' _=>g' 81=mm,λg' _=>g' 82=mm] (by kernel_rfl) rfl (by kernel_rfl) ?jq4 (λf w10 hT hR=>?jq5))
    case jq4=>
     simp only[aG,aS];refine bT.v (λgq w' hb ho hd=>?_) ?_
     ·have e1:=ho 1 rfl;have e2:=(hb.cell (p:=w) jus).trans y9;go_simp
     refine bT.v (λgq w' hb ho hd=>?_) ?_
     ·have e1:_=_:=hd.d 0;go_simp
     refine bT.v (λgq w' hb ho hd=>?_) ?_
     ·have e1:_=_:=hd.d 1;go_simp
     refine bT.v (λgq w' hb ho hd=>?_) ?_
     ·have e1:_=_:=hd.d 2;have e2:=(hb.cell (p:=⟨b,10,none⟩) juw).trans z9;go_simp
     refine bT.v (λgq w' hb ho hd=>?_) ?_
     ·have e1:=ho 3 rfl;go_simp
     refine bT.v (λgq w' hb ho hd=>?_) ?_
     ·have e1:_=_:=hd.d 4;have e2:=(hb.cell (p:=X) jrT).trans x09;go_simp
     refine bT.v (λgq w' hb ho hd=>?_) ?_
     ·have e1:_=_:=hd.d 5;go_simp
     refine bT.v (λgq w' hb ho hd=>?_) ?_
     ·have e1:=ho 3 rfl;go_simp
     refine bT.v (λgq w' hb ho hd=>?_) ?_
     ·have e1:_=_:=hd.d 7;have e2:=(hb.cell (p:=⟨X,1,none⟩) jrT).trans x19;go_simp
     refine bT.v (λgq w' hb ho hd=>?_) ?_
     ·have e1:_=_:=hd.d 6;have e2:_=_:=hd.d 8;go_simp
     refine bT.v (λgq w' hb ho hd=>?_) ?_
     ·have e1:_=_:=hd.d 3;have e2:_=_:=hd.d 9;have e3:=hlook'.O w' hb;simp only[execOp,jF,e1,e2,iP,e3,Result.andThen,jc]
     refine bT.v (λgq w' hb ho hd=>?_) ?_
     ·have e1:=ho 5 rfl;go_simp
     refine bT.v (λgq w' hb ho hd=>?_) ?_
     ·have e1:_=_:=hd.d 10;have e2:_=_:=hd.d 11;go_simp
     exact bT.nil
    case jq5=>
     simp only[Jh]at hR
     simp only[kP,qJ,aG,aS,bU,dH,bY,cO,dA,dL,aQ,bG,bH,hR];clear hR;have jrP:=hD2.kept (kW (row:=none) hT) (by simp)
     refine wpList_mapUpdate_own _ rfl (.tmp 73) (.tmp 79) (.tmp 82) 150 rfl 3 3 jaR underlying150 _ mb (s.aA.length - (x+1)) D rfl jrP (by unfold maxLen;omega) _ _ (Nv ((o:Int)*3+kk)) rfl rfl yg (.lit (.int .i64 mm)) [] (plainElem_int underlying3 (WalkArith.wf_i64 (by omega))) ?_
     intro w11 jeT joQ;refine eP ?_
     have AX:=Eh.O.below hT;have YO:=AX.wS joQ (λr e=>by injection e with e;subst e;exact KX jrP)
     have hs11:Step (ksH b mb V) W6 w11:=(juc.O.trans (.of_below hT)).trans (Step.nG joQ λj hj=>.inr (.inr (.inl (by injection hj with hj;exact hj.symm))))
     have jvf:pV L w11:=λy hy=>by
      have h1:w10.heap[y.1]?=some y.2:=(hT.block y.1 (jsP.O.lt y hy)).trans (jsP.O y hy);refine(joQ.block y.1 (bI.1 h1).1 λhe=>?_).trans h1
      have hm:=hks.O mb (.inr (.inr (.inl rfl)));injection he with he
      rw[hL]at hy
      simp at hy
      rcases hy with rfl|rfl<;>simp only at he<;>omega
     have hput:=hD1.put hok hxl ja4.O jeR.O jeX.O hk3 hmk'.O (by have:=hml'.O;omega) jdb.O (m:=mm)
     rw[jov.O]at hput
     have dw:KeepsFrom w2 W w11/\(k+1<=s.aA.length/\VA w aT b mb V s bn g ((yM s bn g).mid s.aA v x).2 ((yM s bn g).mid s.aA v x).1 x L w11):=by
      refine⟨(Ef juZ).trans (YL hs11 λj hj=>aJ (hks.O j hj) hw2),by omega,?_⟩
      rw[hst2.O];exact⟨YO,jvf,ZQ.O.st.trans hs11,_,hput,jeT.mono (by omega)⟩
     exact dw
   ·have t2:((s.aK o kk).dW !=(g:Int))=true:=by simpa using h2
    have hno:(yM s bn g).is s.aA[x]=false:=by
     cases hq:(yM s bn g).is s.aA[x]
     ·rfl
     ·have:=(FX.1 hq).2;rw[jeR.O,jeX.O]at this
      exact absurd this h2
    have hst:=ah (MF hno);have hno':=ah hno;clear Jj MF h1 h2 hno;gi_wp2_with fail
    refine uZ (by kernel_rfl) (by kernel_rfl) (by kernel_rfl) ?_
    repeat(go_big_quiet_step (fail))
    refine wpQuiet_nil ?_
    intro W6 hw6;have hb6:=dN hw6;clear hw6;clear q1 q2 q3 q5 t1 t2 y0 z1 z2 lc0 x2;gi_wp2_with fail
    exact⟨Ef (fD hb5 hb6),by omega,by rw[hst.O];exact(hI5.O.below hb6).skip hxl hno'.O⟩
  ·have t1:(s.aA[x].bin !=(bn:Int))=true:=by simpa using h1
   have hno:(yM s bn g).is s.aA[x]=false:=by
    cases hq:(yM s bn g).is s.aA[x]
    ·rfl
    ·exact absurd (FX.1 hq).1 h1
   have hst:=ah (MF hno);have hno':=ah hno;clear Jj MF h1 hno;gi_wp2_with fail
   refine uZ (by kernel_rfl) (by kernel_rfl) (by kernel_rfl) ?_
   repeat(go_big_quiet_step (fail))
   refine wpQuiet_nil ?_
   intro W6 hw6;have hb6:=dN hw6;clear hw6;clear q1 q2 q3 q5 t1 y0 z1 z2 lc0 x2;gi_wp2_with fail
   exact⟨Ef (fD hb5 hb6),by omega,by rw[hst.O];exact(hI5.O.below hb6).skip hxl hno'.O⟩
 case Ei=>
  intro D W hD ⟨hk,hI⟩ hWd;rw[uV]at hI
  have hmv:(yM s bn g).rest s.aA v=((yM s bn g).mid s.aA v 0).1.filter λx=>!(x.n==0):=by
   rw[iw.mid_zero];unfold iw.rest;refine nO (λf=>List.filter f ((yM s bn g).cut s.aA v).1) (funext λx=>?_)
   show(!decide (x.n=0))= !(x.n==0);by_cases hx:x.n=0<;>simp[hx]
  have hml:=iw.P9 (C:=yM s bn g) s.aA v 0;obtain⟨M,ov,hmid⟩:∃M ov,(yM s bn g).mid s.aA v 0=(M,ov):=⟨_,_,rfl⟩;rw[hmid]at hI hml hmv
  simp only at hI hml hmv
  have jlS:=ah hmv;have hmid':=ah hmid;clear hmv hmid;have hI':=ah hI;have y0:W.cell? w=some (.pointer (some b)):=Boxed.cell (show Boxed W w 149 (.pointer (some b))from hI.held (w.heap.size,Obj.cells #[.pointer (some b)] 149 (0,0)) (by rw[hL];simp))
  have l0:=hI.held.lt (w.heap.size,Obj.cells #[.pointer (some b)] 149 (0,0)) (by rw[hL];simp)
  simp only at l0
  have c3:=hI.bx.cells.2.2.1;rw[hV]at c3
  simp only at c3
  have hnb:=ah (show ∀j,(Value.slice Ah s.aA.length ch).ownBlock=some j->j≠b/\j<w.heap.size from λj hj=>by
   refine⟨λhe=>?_,(hB'.O.own.aA.size j hj).2⟩
   rcases hI.bx.own.aA.qy hI.bx.box (by decide)with h|h
   ·rw[hV]at h;simp only at h;rw[h]at hj;cases hj
   ·rw[hV]at h;exact h (by rw[<- he];exact hj))
  have lb:b<W.heap.size:=hI.bx.lt;have hLD:D≠b:=by omega
  clear hI;gi_wp2_with fail
  have jjr:=ah hml;clear hml;refine AQ 10 (λw'=>Step (λj=>(Value.slice Ah s.aA.length ch).ownBlock=some j) W w') (λw'=>Below W W w') (λw1 w2=>Step (λj=>(Value.slice Ah s.aA.length ch).ownBlock=some j) w1 w2) 6 [
   λg' _=>g' 83=.pointer (some b),λg' _=>g' 84=.pointer (some b),λg' _=>g' 85=.pointer (some b),λg' _=>g' 86=.pointer (some b),λg' _=>g' 87=.pointer (some ⟨b,2,none⟩),λg' _=>g' 88=.slice Ah s.aA.length ch,λg' w'=>Own iD 4 116 w' aT (g' 89) (M.filter λx=>!(x.n==0)),λg' _=>g' 90=.pointer (some b),λg' _=>g' 91=.pointer (some b),λg' _=>g' 92=.pointer (some ⟨b,2,none⟩)] (by kernel_rfl) (by kernel_rfl) rfl (by kernel_rfl)
   (λw1 w2 h hb=>h.trans (.of_below hb)) (λw1 w2 h h'=>h.trans h') (λw1 w2 h hb=>fD h hb) (.of_below (aj _ _).drew) (aj _ _).drew ?jkA (λf w9 hT hR=>?jkB)
  case jkA=>
   simp only[aG,aS];refine fQ.v (λgq w' hT ho hd=>?_) ?_
   ·have e1:=ho 1 rfl;have e2:=(hT.cell (p:=w) l0 (λh=>by have:=(hnb.O _ h).2;simp only at this;omega)).trans y0
    go_simp
   refine fQ.v (λgq w' hT ho hd=>?_) ?_
   ·have e1:=ho 1 rfl;have e2:=(hT.cell (p:=w) l0 (λh=>by have:=(hnb.O _ h).2;simp only at this;omega)).trans y0
    go_simp
   refine fQ.v (λgq w' hT ho hd=>?_) ?_
   ·have e1:_=_:=hd.d 1;go_simp
   refine fQ.v (λgq w' hT ho hd=>?_) ?_
   ·have e1:_=_:=hd.d 2;go_simp
   refine fQ.v (λgq w' hT ho hd=>?_) ?_
   ·have e1:_=_:=hd.d 3;go_simp
   refine fQ.v (λgq w' hT ho hd=>?_) ?_
   ·have e1:_=_:=hd.d 4;have e2:=(hT.cell (p:=⟨b,2,none⟩) lb (λh=>(hnb.O _ h).1 rfl)).trans c3
    go_simp
   refine fQ.cons ⟨λgq w1 w2 h hb=>h.below hb,λhne=>absurd rfl hne,λgq gq' w1 he h=>?_,λgq w' hT hJ ho hd=>?_⟩ ?_
   ·have e61:=he 6 _ 89 (.self 6) rfl rfl;simp only[e61]at h
    exact h
   ·have e1:_=_:=hd.d 5;have hbel:=hJ (.inl rfl);have hcall:=U5 w' aT (.slice Ah s.aA.length ch) M 159 #[] (λx=>x.n==0) jks (by have:=(hI'.O.below hbel).bx.own.aA;rw[hV]at this;exact this) (by have:=jjr.O;omega) (λk _ V _=>joS V _)
    unfold iq;go_simp
    refine hcall.mono ?_
    rintro e w'' ⟨v',rfl,ho',hs',_⟩;refine⟨_,rfl,?_,hs'⟩
    simpa[xB,upd]using ho'
   refine fQ.v (λgq w' hT ho hd=>?_) ?_
   ·have e1:_=_:=hd.d 0;go_simp
   refine fQ.v (λgq w' hT ho hd=>?_) ?_
   ·have e1:_=_:=hd.d 7;go_simp
   refine fQ.v (λgq w' hT ho hd=>?_) ?_
   ·have e1:_=_:=hd.d 8;go_simp
   exact fQ.nil
  case jkB=>
   obtain⟨r83,r84,r85,r86,r87,r88,C9,r90,r91,r92,_⟩:=hR;obtain⟨A9,c9,Oe⟩:=C9.isSlice;rw[Oe]at C9
   simp only[kP,qJ,aG,aS,bU,dH,bY,cO,dA,dL,aQ,bG,bH,r83,r84,r85,r86,r87,r88,Oe,r90,r91,r92];clear r83 r84 r85 r86 r87 r88 r90 r91 r92 Oe;have hO0:dX W aT ⟨k0,k1,.slice Ah s.aA.length ch,k3,k4,k5,k6,k7,k8⟩ (Oh s bn M):=by
    have:=hI'.O.bx.own;rw[hV]at this
    exact this
   have wO:dX w9 aT ⟨k0,k1,.slice A9 (M.filter λx=>!(x.n==0)).length c9,k3,k4,k5,k6,k7,k8⟩ {Oh s bn M with aA:=M.filter λx=>!(x.n==0)}:=hO0.Zi hT C9
   have AA:iJ w9 b 152 (SV.cells ⟨k0,k1,.slice Ah s.aA.length ch,k3,k4,k5,k6,k7,k8⟩++Gy bn g ov (.map (some mb))):=by
    have:=hT.blk hI'.O.bx.box (λh=>(hnb.O _ h).1 rfl)
    rw[hV]at this
    exact this
   refine Jm rfl (.tmp 92) (.tmp 89) rfl rfl A9 (M.filter λx=>!(x.n==0)).length c9 (V:=⟨k0,k1,.slice Ah s.aA.length ch,k3,k4,k5,k6,k7,k8⟩) (cs:=Gy bn g ov (.map (some mb))) (b:=b) AA wO jgv rfl rfl rfl (λw10 AX Ai=>?_)
   refine eP ?_
   have hD9:w9.heap[D]?=some (.deferred (some [])):=hT.heap hWd (λh=>by have:=(hnb.O _ h).2;omega)
   have jke:=Ai.heap hD9 hLD;have hs10:Step (ksH b mb V) w w10:=hI'.O.st.trans ((hT.mono λj h=>.inr (.inl (by rw[hV];exact h))).trans (Ai.mono λj h=>.inl h))
   obtain⟨DD,hc1,hc2⟩:=hI'.O.mp;have hmo:=KX hc2;have hc3:=BQ hc2 hT (λh=>by
    obtain⟨cur,hcb⟩:=hO0.aA.block h;obtain⟨o',ho1,ho2⟩:=hmo;rw[hcb]at ho1
    injection ho1 with ho1
    subst ho1;cases ho2)
   have hc4:=BQ hc3 Ai (λh=>DZ hc3 AA h)
   have sQ:=ah AX;clear AX Ai wO AA hT C9 hc2 hc3 hO0;go_wp2_with fail;have hgD:=grownBy_putObj' w10 D (.deferred none);have YO:=sQ.O.wS hgD (λr e=>by cases e;exact⟨_,jke,rfl⟩)
   refine⟨by simp,.inl ⟨_,_,rfl,run_takeDeferred jke,?_⟩⟩
   have hkk:∀o k:Nat,dD ((yM s bn g).rest s.aA v) o k bn=dD M o k bn:=λo k=>by
    have hmk:=iw.jf5 (C:=yM s bn g) yg (λ_ _=>rfl) s.aA v 0
    rw[hmid'.O]at hmk
    have hf:(λx:eX=>!(x.n==0))=λx=>!decide (x.n=0):=funext λx=>by by_cases hx:x.n=0<;>simp[hx]
    rw[jlS.O,hf];exact jcF (by rw[hmk];exact JZ hok) o k bn
   refine⟨.tuple #[],uU rfl _ _ _,rfl,⟨k0,k1,.slice A9 (M.filter λx=>!(x.n==0)).length c9,k3,k4,k5,k6,k7,k8⟩,ov,DD,rfl,?_,?_,hc1.congr hkk,?_⟩
   ·have e:Oh s bn ((yM s bn g).rest s.aA v)={Oh s bn M with aA:=M.filter λx=>!(x.n==0)}:=by
     unfold Oh;rw[jhg hkk,jlS.O]
    rw[e];exact YO
   ·rw[<- hV];refine hs10.trans' (Step.nG (ks:=λk=>some D=some k) hgD λk e=>e) λk hk e=>?_
    injection e with e
    omega
   ·refine(hc4.kept hgD (λe=>?_)).mono (by omega)
    injection e with e
    omega
end
end Wh
