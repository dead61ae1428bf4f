/- Texts of the claim, joined. -/
import Derived.Laws.StructEq
import Derived.Deep.RegionHeld3
import Derived.Test.YtfhfkijmebhgmaaGreatK09
set_option maxHeartbeats 20000000
set_option maxRecDepth 100000
namespace Wh
open Go Go.RowKit Go.Shelf Go.Proofs Tryz
attribute [local go_sem] aT
theorem jdI{l:List dZ}{o ln b:Int}{k:Nat}(hk:k<l.length)(h:uS o ln b (hold l k)=true)(hn:∀j,j<k->uS o ln b (hold l j)=false):bW l o ln b=(hold l k).n:=by
 unfold bW;have:l.find? (uS o ln b)=some (hold l k):=by
  rw[List.find?_eq_some_iff_getElem]
  refine⟨h,k,hk,(iL hk).symm,λj hj=>?_⟩
  have:=hn j hj;rw[iL (by omega)]at this
  rw[this];rfl
 rw[this]
theorem jbE{l:List dZ}{o ln b:Int}(hn:∀j,j<l.length->uS o ln b (hold l j)=false):bW l o ln b=0:=by
 refine Dc λx hx hk=>?_
 obtain⟨i,hi,rfl⟩:=aV hx;have h:=hn i hi;rw[iL hi,CQ.2 hk]at h
 cases h
theorem jfY(o ln b:Int)(h:dZ):((h.aC==o)=false/\uS o ln b h=false)\/((h.aC==o)=true/\(h.aG==ln)=false/\uS o ln b h=false)\/
  ((h.aC==o)=true/\(h.aG==ln)=true/\(h.bin==b)=false/\uS o ln b h=false)\/((h.aC==o)=true/\(h.aG==ln)=true/\(h.bin==b)=true/\uS o ln b h=true):=by
 unfold uS;by_cases h1:h.aC=o<;>by_cases h2:h.aG=ln<;>by_cases h3:h.bin=b<;>simp[h1,h2,h3]
theorem Zy(w:World)(v:Value)(l:List dZ)(o ln b:Int)(hv:Sl ig w w.heap.size v l):
  Calls prog 108 #[v,.int .i64 o,.int .i64 ln,.int .i64 b] w λe w'=>e=.returned (.int .i64 (bW l o ln b))/\w=w':=by
 obtain⟨A,c,rfl,hl,hA⟩:=hv;go_enter func108,ntmps108
 go_wp2_with fail;go_loop[9] (λi=>∃k:Nat,k<=l.length/\i=.int .i64 k/\(∀j,j<k->uS o ln b (hold l j)=false)) (λi=>l.length - (RowKit.intOf i).toNat)
 case atStart=>exact⟨0,aK _,rfl,λj hj=>by omega⟩
 case round=>
  obtain⟨k,hk,rfl,kE⟩:=hrel;have hall':=ah kE;clear kE;by_cases hlt:k<l.length
  ·obtain⟨hok,LG,b0,b1,b2,b3⟩:=hA.hold hlt;rcases jfY o ln b (hold l k)with⟨g1,hs⟩|⟨g1,g2,hs⟩|⟨g1,g2,g3,hs⟩|⟨g1,g2,g3,hs⟩
   ·have hs':=ah hs;clear hs;go_wp2_with fail;go_round
    case rel=>
     refine⟨k+1,by omega,by go_num,λj hj=>?_⟩
     rcases aS.1 hj with h|rfl
     ·exact hall'.O j h
     ·exact hs'.O
    case measure=>simp[RowKit.intOf];omega
   ·have hs':=ah hs;clear hs;go_wp2_with fail;go_round
    case rel=>
     refine⟨k+1,by omega,by go_num,λj hj=>?_⟩
     rcases aS.1 hj with h|rfl
     ·exact hall'.O j h
     ·exact hs'.O
    case measure=>simp[RowKit.intOf];omega
   ·have hs':=ah hs;clear hs;go_wp2_with fail;go_round
    case rel=>
     refine⟨k+1,by omega,by go_num,λj hj=>?_⟩
     rcases aS.1 hj with h|rfl
     ·exact hall'.O j h
     ·exact hs'.O
    case measure=>simp[RowKit.intOf];omega
   ·have bK:=ah (jdI hlt hs hall'.O);clear hs;go_wp2_with fail;go_ret
    exact⟨iF bK.O.symm,rfl⟩
  ·obtain rfl:k=l.length:=by omega
   have bK:=ah (jbE hall'.O);go_wp2_with fail;go_ret
   exact⟨iF bK.O.symm,rfl⟩
theorem UN(w:World)(v:Value)(l:List dZ)(o ln:Int)(hv:Sl ig w w.heap.size v l)(hok:iD l=true):
  Calls prog 92 #[v,.int .i64 o,.int .i64 ln] w λe w'=>e=.returned (.int .i64 (kept l o ln))/\w=w':=by
 have hV:=hv;obtain⟨A,c,rfl,hl,hA⟩:=hv;obtain⟨g1,g2⟩:=gG.1 hok;have hr:=λb=>Fv g1 g2 o ln b
 have bK:=ah (Gj hok o ln);have hr':=ah hr;clear hok g1 g2 hr;go_enter func92,ntmps92
 go_wp2_with fail;go_loop[7,8] (λn i=>∃k:Nat,k<=6/\i=.int .i64 k/\n=.int .i64 (nH (λb=>bW l o ln b) k)) (λ_ i=>6 - (RowKit.intOf i).toNat)
 case atStart=>exact⟨0,by omega,rfl,rfl⟩
 case round=>
  obtain⟨k,hk,rfl,rfl⟩:=hrel;obtain⟨u1,u2⟩:=Du (f:=λb=>bW l o ln b) (n:=k) (m:=200) (λj _=>hr'.O j)
  have u3:nH (λb=>bW l o ln b) k<=1200:=by omega
  clear u2;by_cases hlt:k<6
  ·obtain⟨q1,q2⟩:=hr'.O k;go_wp2_with fail;refine(Zy _ _ _ _ _ _ hV).mono ?_
   rintro e w' ⟨rfl,rfl⟩;go_wp2_with fail;go_round
   case rel=>exact⟨k+1,by omega,by go_num,rfl⟩
   case measure=>simp[RowKit.intOf];omega
  ·obtain rfl:k=6:=by omega
   go_wp2_with fail;go_ret
   exact⟨iF bK.O.symm,rfl⟩
theorem jdC(o ln:Int)(h:dZ):((h.aC==o)=false/\Bz o ln h=false)\/((h.aC==o)=true/\(h.aG==ln)=false/\Bz o ln h=false)\/
  ((h.aC==o)=true/\(h.aG==ln)=true/\Bz o ln h=true):=by
 unfold Bz;by_cases h1:h.aC=o<;>by_cases h2:h.aG=ln<;>simp[h1,h2]
def Gl(l:List dZ)(o ln:Int)(k:Nat):Int:=kept (l.take k) o ln
theorem jdH{l:List dZ}{o ln:Int}{k:Nat}(hk:k<l.length)(h:Bz o ln (hold l k)=true):Gl l o ln (k+1)=Gl l o ln k+(hold l k).n:=by
 unfold Gl kept;rw[dO hk,jI,<- iL hk,lq,h];simp
theorem YQ{l:List dZ}{o ln:Int}{k:Nat}(hk:k<l.length)(h:Bz o ln (hold l k)=false):Gl l o ln (k+1)=Gl l o ln k:=by
 unfold Gl kept;rw[dO hk,jI,<- iL hk,lq,h];simp
theorem jkw{l:List dZ}(h:iD l=true)(k:Nat):iD (l.take k)=true:=by
 obtain⟨g1,g2⟩:=gG.1 h;exact gG.2 ⟨λx hx=>g1 x (tq hx),g2.sublist (List.take_sublist k l)⟩
theorem Xh{l:List dZ}:lT l=0↔iD l=true:=by
 unfold lT;cases iD l<;>simp
theorem jiL(w:World)(v:Value)(l:List dZ)(o ln:Int)(hv:Sl ig w w.heap.size v l):
  Calls prog 83 #[v,.int .i64 o,.int .i64 ln] w λe w'=>e=.returned (.tuple #[.int .i64 (Na l o ln).1,.int .i64 (Na l o ln).2])/\Below w.heap.size w w':=by
 have hV:=hv;obtain⟨A,c,rfl,hl,hA⟩:=hv;go_enter func83,ntmps83
 go_wp2_with fail;refine(UW _ _ _ hV).mono ?_
 rintro e W1 ⟨rfl,hb1⟩;cases hok:iD l
 ·have hc:lT l=1:=by unfold lT;rw[hok];rfl
  have hk:Na l o ln=(0,1):=by unfold Na;rw[hok];rfl
  have hk':=ah hk;rw[hc];clear hc hk;go_wp2_with fail;go_ret2
  exact⟨jdj (by rw[hk'.O];rfl) (by rw[hk'.O];rfl),hb1⟩
 ·have hc:lT l=0:=Xh.2 hok;have hk:Na l o ln=(kept l o ln,0):=by unfold Na;rw[hok];rfl
  have hrg:=λk=>vK (jkw hok k) o ln
  have jdT:=ah hrg;have hk':=ah hk;rw[hc];clear hc hk hok hrg;go_wp2_with fail;go_loopw[9,19,11] (λn i _ wr=>∃k:Nat,k<=l.length/\i=.int .i64 k/\n=.int .i64 (Gl l o ln k)/\Below W1.heap.size W1 wr) (λ_ i _ _=>l.length - (RowKit.intOf i).toNat)
  case atStart=>exact⟨0,aK _,rfl,rfl,aj _ _⟩
  case round=>
   obtain⟨k,hk,rfl,rfl,hbw⟩:=hrel;obtain⟨u1,u2⟩:=jdT.O k;change 0<=Gl l o ln k at u1
   change Gl l o ln k<=1200 at u2
   by_cases hlt:k<l.length
   ·have X3:=hb1.trans (hbw.mono hb1.size);obtain⟨hok,LG,b0,b1,b2,b3⟩:=(hA.up X3 X3.size).hold hlt;obtain⟨u3,u4⟩:=jdT.O (k+1);change 0<=Gl l o ln (k+1)at u3
    change Gl l o ln (k+1)<=1200 at u4
    rcases jdC o ln (hold l k)with⟨g1,hs⟩|⟨g1,g2,hs⟩|⟨g1,g2,hs⟩
    ·have hs':=ah (YQ hlt hs);clear hs;go_wp2_with fail;go_roundw
     case rel=>exact⟨k+1,by omega,by go_num,by rw[hs'.O],hbw.alloc hbw.size _⟩
     case measure=>simp[RowKit.intOf];omega
    ·have hs':=ah (YQ hlt hs);clear hs;go_wp2_with fail;go_roundw
     case rel=>exact⟨k+1,by omega,by go_num,by rw[hs'.O],hbw.alloc hbw.size _⟩
     case measure=>simp[RowKit.intOf];omega
    ·have hs':=ah (jdH hlt hs);rw[hs'.O]at u3 u4
     clear hs;go_wp2_with fail;go_roundw
     case rel=>exact⟨k+1,by omega,by go_num,by rw[hs'.O],hbw.alloc hbw.size _⟩
     case measure=>simp[RowKit.intOf];omega
   ·obtain rfl:k=l.length:=by omega
    have bK:=ah (show Gl l o ln l.length=kept l o ln by unfold Gl;rw[fG])
    go_wp2_with fail;go_ret2
    exact⟨jdj (by rw[hk'.O,<- bK.O];rfl) (by rw[hk'.O];rfl),hb1.trans (hbw.mono hb1.size)⟩
theorem Sv{P:Program}{t:TypeId}(hS:P.underlying t=some (.struct (P.fieldsOf t)))(hp:P.stoodInHeld t=false)(xs ys:Array Value)(b:Bool)(h:∀w,(Op.eqFields 9999 xs ys (P.fieldsOf t).toList).run P w=.ok b w)(w:World):
  (binOp .neq t (.agg xs) (.agg ys)).run P w=.ok (.bool (!b)) w:=by
 rw[run_neq_struct,show(10000:Nat)=9999+1 from rfl,run_equalIn_agg w 9999 t _ _ hS hp,h]
 rfl
theorem jkQ{x y:dZ}:x=y↔x.aC=y.aC/\x.aG=y.aG/\x.bin=y.bin/\x.n=y.n:=by
 cases x;cases y;simp
theorem jkz(x y:dZ)(w:World):(binOp .neq 46 (.agg #[.int .i64 (x).aC,.int .i64 (x).aG,.int .i64 (x).bin,.int .i64 (x).n]) (.agg #[.int .i64 (y).aC,.int .i64 (y).aG,.int .i64 (y).bin,.int .i64 (y).n])).run prog w=.ok (.bool (!decide (x=y))) w:=by
 refine Sv (by kernel_rfl) (by kernel_rfl) _ _ _ (λw=>?_) w
 have u3:=underlying3;have a3:=isAgg3;have z3:=sizeOf3;simp only[Program.fieldsOf,underlying46];go_simp
 by_cases h1:x.aC=y.aC<;>by_cases h2:x.aG=y.aG<;>by_cases h3:x.bin=y.bin<;>by_cases h4:x.n=y.n<;>simp[h1,h2,h3,h4,jkQ]
theorem jdm(w:World)(va vb:Value)(a b:List dZ)(ha:Sl ig w w.heap.size va a)(hb:Sl ig w w.heap.size vb b):
  Calls prog 25 #[va,vb] w λe w'=>e=.returned (.bool (decide (a=b)))/\Below w.heap.size w w':=by
 obtain⟨A,c,rfl,hl,hA⟩:=ha;obtain⟨B,d,rfl,hl2,hB⟩:=hb;have hq:=jkz;have hg:prog.eqGuardType prog.depth 46=false:=by kernel_rfl
 go_enter func25,ntmps25
 by_cases kD:a.length=b.length
 ·have hnb:((a.length:Int)!=(b.length:Int))=false:=by rw[kD];simp
  have hle1:=jy kD;have hle2:=jy kD.symm;have hlen':=ah kD;clear kD;go_wp2_with fail;go_loopw[5] (λi wr=>∃k:Nat,k<=a.length/\i=.int .i64 k/\(∀j,j<k->hold a j=hold b j)/\Below w.heap.size w wr) (λi _=>a.length - (RowKit.intOf i).toNat)
  case atStart=>exact⟨0,aK _,rfl,λj hj=>by omega,aj _ _⟩
  case round=>
   obtain⟨k,hk,rfl,kE,hbw⟩:=hrel;have hall':=ah kE;clear kE;by_cases hlt:k<a.length
   ·have hlt2:k<b.length:=by omega
    obtain⟨o1,o2,o3,o4,o5,o6⟩:=(hA.up hbw hbw.size).hold hlt;obtain⟨p1,p2,p3,p4,p5,p6⟩:=(hB.up hbw hbw.size).hold hlt2;by_cases he:hold a k=hold b k
    ·have heb:decide (hold a k=hold b k)=true:=by rw[he];simp
     have he':=ah he;clear he;go_wp2_with fail;go_quiet (fail)
     go_wp2_with fail;go_roundw
     case rel=>
      refine⟨k+1,by omega,by go_num,λj hj=>?_,below_drewN hbw _⟩
      rcases aS.1 hj with h|rfl
      ·exact hall'.O j h
      ·exact he'.O
     case measure=>simp[RowKit.intOf];omega
    ·have heb:decide (hold a k=hold b k)=false:=by simp[he]
     have hne:=ah (show a≠b from λe=>he (by rw[e]))
     go_wp2_with fail;go_quiet (fail)
     go_wp2_with fail;go_ret
     exact⟨fK (by rw[fA hne.O]),below_drewN hbw _⟩
   ·obtain rfl:k=a.length:=by omega
    have heq:a=b:=lW hlen'.O λi h1 h2=>by rw[<- iL h1,<- iL h2];exact hall'.O i h1
    have heq':=ah heq;clear heq;go_wp2_with fail;go_ret
    exact⟨fK (by rw[iG heq'.O]),hbw⟩
 ·have hne:=ah (show a≠b from λe=>kD (by rw[e]))
  have hnb:((a.length:Int)!=(b.length:Int))=true:=by simp;omega
  go_wp2_with fail;go_ret
  exact⟨fK (by rw[fA hne.O]),aj _ _⟩
end Wh
namespace Wh
open Go Go.RowKit Go.Shelf Go.Proofs Tryz
attribute [local go_sem] aT
theorem jlZ(w:World):Calls prog 41 #[] w (Gives (λu w'=>mW w' w'.heap.size u TD) w):=by
 go_enter func41,ntmps41
 go_wp2_with fail;refine fD (v:=.agg #[.slice (some ⟨w.heap.size+1,0,none⟩) 3 3,.slice (some ⟨w.heap.size+1+1,0,none⟩) 2 2]) (by simp[results,results41,go_sem]) rfl ?_
 have b1:=Own.lit (aO:=0) (enc:=PG) (size:=4) (w.alloc (.cells #[.slice (some ⟨w.heap.size+1,0,none⟩) 3 3,.slice (some ⟨w.heap.size+1+1,0,none⟩) 2 2] 25)) 125
  #[.bool false, .int .i64 100, .int .i64 0, .int .i64 0, .bool true, .int .i64 30, .int .i64 4, .int .i64 8, .bool false, .int .i64 60, .int .i64 0, .int .i64 0] TD.bQ (aK _) (by decide) (λ_ => rfl) rfl
 have b2:=b1.alloc (.cells #[.int .i64 2,.int .i64 3] 3);have b3:=Own.lit (aO:=0) (enc:=jJ) (size:=1) ((w.alloc (.cells #[.slice (some ⟨w.heap.size+1,0,none⟩) 3 3,.slice (some ⟨w.heap.size+1+1,0,none⟩) 2 2] 25)).alloc
  (.cells #[.bool false,.int .i64 100,.int .i64 0,.int .i64 0,.bool true,.int .i64 30,.int .i64 4,.int .i64 8,.bool false,.int .i64 60,.int .i64 0,.int .i64 0] 125)) 3 #[.int .i64 2,.int .i64 3] TD.aP (aK _) (by decide) (λ_=>rfl) rfl
 simp only[cO]at b2 b3
 exact⟨_,rfl,⟨_,_,rfl,b2.sl (by decide),b3.sl (by decide)⟩,(((aj _ _).alloc (au _) _).alloc (by simp) _).alloc (by simp;omega) _⟩
theorem OX(w:World)(va vb:Value)(a b:List Int)(ha:Sl jJ w w.heap.size va a)(hb:Sl jJ w w.heap.size vb b):
  Calls prog 59 #[va,vb] w λe w'=>e=.returned (.bool (decide (a=b)))/\Below w.heap.size w w':=by
 obtain⟨A,c,rfl,hl,hA⟩:=ha;obtain⟨B,d,rfl,hl2,hB⟩:=hb;go_enter func59,ntmps59
 by_cases kD:a.length=b.length
 ·have hnb:((a.length:Int)!=(b.length:Int))=false:=by rw[kD];simp
  have hle1:=jy kD;have hle2:=jy kD.symm;have hlen':=ah kD;clear kD;go_wp2_with fail;go_loopw[5] (λi wr=>∃k:Nat,k<=a.length/\i=.int .i64 k/\(∀j,j<k->bI a j=bI b j)/\Below w.heap.size w wr) (λi _=>a.length - (RowKit.intOf i).toNat)
  case atStart=>exact⟨0,aK _,rfl,λj hj=>by omega,aj _ _⟩
  case round=>
   obtain⟨k,hk,rfl,kE,hbw⟩:=hrel;have hall':=ah kE;clear kE;by_cases hlt:k<a.length
   ·have hlt2:k<b.length:=by omega
    obtain⟨o1,o2,o3⟩:=(hA.up hbw hbw.size).int hlt;obtain⟨p1,p2,p3⟩:=(hB.up hbw hbw.size).int hlt2;by_cases he:bI a k=bI b k
    ·have heb:(bI a k !=bI b k)=false:=by rw[he];simp
     have he':=ah he;clear he;go_wp2_with fail;go_quiet (fail)
     go_wp2_with fail;go_roundw
     case rel=>
      refine⟨k+1,by omega,by go_num,λj hj=>?_,below_drewN hbw _⟩
      rcases aS.1 hj with h|rfl
      ·exact hall'.O j h
      ·exact he'.O
     case measure=>simp[RowKit.intOf];omega
    ·have heb:(bI a k !=bI b k)=true:=by simp[he]
     have hne:=ah (show a≠b from λe=>he (by rw[e]))
     go_wp2_with fail;go_quiet (fail)
     go_wp2_with fail;go_ret
     exact⟨fK (by rw[fA hne.O]),below_drewN hbw _⟩
   ·obtain rfl:k=a.length:=by omega
    have heq:a=b:=lW hlen'.O λi h1 h2=>by rw[<- BD h1,<- BD h2];exact hall'.O i h1
    have heq':=ah heq;clear heq;go_wp2_with fail;go_ret
    exact⟨fK (by rw[iG heq'.O]),hbw⟩
 ·have hne:=ah (show a≠b from λe=>kD (by rw[e]))
  have hnb:((a.length:Int)!=(b.length:Int))=true:=by simp;omega
  go_wp2_with fail;go_ret
  exact⟨fK (by rw[fA hne.O]),aj _ _⟩
theorem jfN(w:World)(va vb:Value)(a b:List (List Int))(ha:FW jJ w w.heap.size va a)(hb:FW jJ w w.heap.size vb b):
  Calls prog 58 #[va,vb] w λe w'=>e=.returned (.bool (decide (a=b)))/\Below w.heap.size w w':=by
 have hA:=ha;have hB:=hb;obtain⟨A,c,vs,rfl,hl,hvl,hAt,G9⟩:=ha;obtain⟨B,d,us,rfl,hl2,hul,hBt,hrows2⟩:=hb;go_enter func58,ntmps58
 by_cases kD:a.length=b.length
 ·have hnb:((a.length:Int)!=(b.length:Int))=false:=by rw[kD];simp
  have hle1:=jy kD;have hle2:=jy kD.symm;have hlen':=ah kD;clear kD;go_wp2_with fail;go_loopw[5] (λi wr=>∃k:Nat,k<=a.length/\i=.int .i64 k/\(∀j,j<k->fO a j=fO b j)/\Below w.heap.size w wr) (λi _=>a.length - (RowKit.intOf i).toNat)
  case atStart=>exact⟨0,aK _,rfl,λj hj=>by omega,aj _ _⟩
  case round=>
   obtain⟨k,hk,rfl,kE,hbw⟩:=hrel;have hall':=ah kE;clear kE;by_cases hlt:k<a.length
   ·have hlt2:k<b.length:=by omega
    obtain⟨A1,c1,o1,o2,o3,hs1⟩:=(hA.up hbw hbw.size).row hlt;obtain⟨B1,d1,p1,p2,p3,hs2⟩:=(hB.up hbw hbw.size).row hlt2;go_wp2_with fail;obtain⟨r,hr⟩:∃r,decide (fO a k=fO b k)=r:=⟨_,rfl⟩;have hc:=λ(W:World) (h1:Sl jJ W W.heap.size (.slice A1 (fO a k).length c1) (fO a k)) (h2:Sl jJ W W.heap.size (.slice B1 (fO b k).length d1) (fO b k))=>OX W _ _ _ _ h1 h2
    simp only[hr]at hc
    have hr':=ah hr;have hc':=ah hc;clear hr hc;cases r
    ·have hne:=ah (show a≠b from λe=>by have:=hr'.O;rw[e]at this;simp at this)
     go_region_with (go_at_call 59;refine(hc'.O _ hs1.drew hs2.drew).mono ?_;rintro e W1 ⟨rfl,hb1⟩)
     all_goals
      have sF:=hbw.drew.trans (hb1.mono hbw.size);go_wp2_with fail;go_ret
      exact⟨fK (by rw[fA hne.O]),sF⟩
    ·have he':=ah (kQ hr'.O);go_region_with (go_at_call 59;refine(hc'.O _ hs1.drew hs2.drew).mono ?_;rintro e W1 ⟨rfl,hb1⟩)
     all_goals
      have sF:=hbw.drew.trans (hb1.mono hbw.size);go_wp2_with fail;go_roundw
      case rel=>
       refine⟨k+1,by omega,by go_num,λj hj=>?_,sF⟩
       rcases aS.1 hj with h|rfl
       ·exact hall'.O j h
       ·exact he'.O
      case measure=>simp[RowKit.intOf];omega
   ·obtain rfl:k=a.length:=by omega
    have heq:a=b:=lW hlen'.O λi h1 h2=>by rw[<- xZ h1,<- xZ h2];exact hall'.O i h1
    have heq':=ah heq;clear heq;go_wp2_with fail;go_ret
    exact⟨fK (by rw[iG heq'.O]),hbw⟩
 ·have hne:=ah (show a≠b from λe=>kD (by rw[e]))
  have hnb:((a.length:Int)!=(b.length:Int))=true:=by simp;omega
  go_wp2_with fail;go_ret
  exact⟨fK (by rw[fA hne.O]),aj _ _⟩
end Wh
namespace Wh
open Go Go.RowKit Go.Shelf Go.Proofs Tryz
attribute [local go_sem] aT
theorem jky(x:Line)(w:World):(binOp .neq 44 (.agg #[.int .i64 (x).dh,.int .i64 (x).iw,.int .i64 (x).oh,.int .i64 (x).dP]) (.agg #[.int .i64 (x).dh,.int .i64 (x).iw,.int .i64 (x).oh,.int .i64 (x).dP])).run prog w=.ok (.bool false) w:=by
 refine Sv (by kernel_rfl) (by kernel_rfl) _ _ true (λw=>?_) w
 have u3:=underlying3;have a3:=isAgg3;have z3:=sizeOf3;simp only[Program.fieldsOf,underlying44];go_simp
theorem jkx(x:Move)(w:World):(binOp .neq 48 (.agg #[.int .i64 (x).dh,.int .i64 (x).src,.int .i64 (x).dst,.int .i64 (x).n]) (.agg #[.int .i64 (x).dh,.int .i64 (x).src,.int .i64 (x).dst,.int .i64 (x).n])).run prog w=.ok (.bool false) w:=by
 refine Sv (by kernel_rfl) (by kernel_rfl) _ _ true (λw=>?_) w
 have u3:=underlying3;have a3:=isAgg3;have z3:=sizeOf3;simp only[Program.fieldsOf,underlying48];go_simp
theorem iV.two(w:World)(cs cs':Array Value)(e e':TypeId):iV ((w.alloc (.cells cs e)).alloc (.cells cs' e')).drew (w.heap.size+1) e' cs'.toList:=by
 have:=iV.new (w.alloc (.cells cs e)) e' cs';have h:iV ((w.alloc (.cells cs e)).alloc (.cells cs' e')) (w.heap.size+1) e' cs'.toList:=by simpa using this
 exact h.drew
theorem Sl.len{α:Type}{enc:α->List Value}{w:World}{B:Nat}{v:Value}{l:List α}(h:Sl enc w B v l):l.length<=140737488355232:=let ⟨_,_,_,h,_⟩:=h;h
theorem JK(w:World)(va vb:Value)(s:aJ)(ha:lK w w.heap.size va s)(hb:lK w w.heap.size vb s):
  Calls prog 19 #[va,vb] w λe w'=>e=.returned (.bool true)/\Below w.heap.size w w':=by
 obtain⟨_,_,_,_,_,_,_,rfl,⟨A0,c0,vs0,rfl,hl0,hm0,ha0,hr0⟩,⟨A1,c1,vs1,rfl,hl1,hm1,ha1,hr1⟩,⟨A2,c2,rfl,hl2,ha2⟩,⟨A3,c3,rfl,hl3,ha3⟩,⟨A4,c4,rfl,hl4,ha4⟩,⟨A5,c5,rfl,hl5,ha5⟩,⟨A6,c6,rfl,JA,ha6⟩⟩:=ha;obtain⟨_,_,_,_,_,_,_,rfl,⟨B0,d0,us0,rfl,_,hn0,hb0,ht0⟩,⟨B1,d1,us1,rfl,_,hn1,hb1,ht1⟩,⟨B2,d2,rfl,_,hb2⟩,⟨B3,d3,rfl,_,hb3⟩,⟨B4,d4,rfl,_,hb4⟩,⟨B5,d5,rfl,_,hb5⟩,⟨B6,d6,rfl,_,hb6⟩⟩:=hb;have hNa:=ah (λW (hW:Below w.heap.size w W)=>(FW.up ⟨A0,c0,vs0,rfl,hl0,hm0,ha0,hr0⟩ hW hW.size:FW jJ W W.heap.size (.slice A0 s.on.length c0) s.on))
 have hNb:=ah (λW (hW:Below w.heap.size w W)=>(FW.up ⟨B0,d0,us0,rfl,hl0,hn0,hb0,ht0⟩ hW hW.size:FW jJ W W.heap.size (.slice B0 s.on.length d0) s.on))
 have hOa:=ah (λW (hW:Below w.heap.size w W)=>(nJ.up ⟨A1,c1,vs1,rfl,hl1,hm1,ha1,hr1⟩ hW hW.size:nJ W W.heap.size (.slice A1 s.ak.length c1) s.ak))
 have hOb:=ah (λW (hW:Below w.heap.size w W)=>(nJ.up ⟨B1,d1,us1,rfl,hl1,hn1,hb1,ht1⟩ hW hW.size:nJ W W.heap.size (.slice B1 s.ak.length d1) s.ak))
 have hHa:=ah (λW (hW:Below w.heap.size w W)=>(Sl.up ⟨A2,c2,rfl,hl2,ha2⟩ hW hW.size:Sl ig W W.heap.size (.slice A2 s.aA.length c2) s.aA))
 have hHb:=ah (λW (hW:Below w.heap.size w W)=>(Sl.up ⟨B2,d2,rfl,hl2,hb2⟩ hW hW.size:Sl ig W W.heap.size (.slice B2 s.aA.length d2) s.aA))
 have hMa:=ah (λW (hW:Below w.heap.size w W)=>(Sl.up ⟨A3,c3,rfl,hl3,ha3⟩ hW hW.size:Sl nP W W.heap.size (.slice A3 s.aF.length c3) s.aF))
 have hMb:=ah (λW (hW:Below w.heap.size w W)=>(Sl.up ⟨B3,d3,rfl,hl3,hb3⟩ hW hW.size:Sl nP W W.heap.size (.slice B3 s.aF.length d3) s.aF))
 have hIa:=ah (λW (hW:Below w.heap.size w W)=>(Sl.up ⟨A4,c4,rfl,hl4,ha4⟩ hW hW.size:Sl jJ W W.heap.size (.slice A4 s.gY.length c4) s.gY))
 have hIb:=ah (λW (hW:Below w.heap.size w W)=>(Sl.up ⟨B4,d4,rfl,hl4,hb4⟩ hW hW.size:Sl jJ W W.heap.size (.slice B4 s.gY.length d4) s.gY))
 have hUa:=ah (λW (hW:Below w.heap.size w W)=>(Sl.up ⟨A5,c5,rfl,hl5,ha5⟩ hW hW.size:Sl jJ W W.heap.size (.slice A5 s.O.length c5) s.O))
 have hUb:=ah (λW (hW:Below w.heap.size w W)=>(Sl.up ⟨B5,d5,rfl,hl5,hb5⟩ hW hW.size:Sl jJ W W.heap.size (.slice B5 s.O.length d5) s.O))
 have hXa:=ah (λW (hW:Below w.heap.size w W)=>(Sl.up ⟨A6,c6,rfl,JA,ha6⟩ hW hW.size:Sl jJ W W.heap.size (.slice A6 s.bg.length c6) s.bg))
 have hXb:=ah (λW (hW:Below w.heap.size w W)=>(Sl.up ⟨B6,d6,rfl,JA,hb6⟩ hW hW.size:Sl jJ W W.heap.size (.slice B6 s.bg.length d6) s.bg))
 clear hm0 ha0 hr0 hm1 ha1 hr1 ha2 ha3 ha4 ha5 ha6 hn0 hb0 ht0 hn1 hb1 ht1 hb2 hb3 hb4 hb5 hb6;have hb0:Below w.heap.size w ((w.alloc (.cells #[.slice A0 s.on.length c0,.slice A1 s.ak.length c1,.slice A2 s.aA.length c2,.slice A3 s.aF.length c3,.slice A4 s.gY.length c4,.slice A5 s.O.length c5,.slice A6 s.bg.length c6] 31)).alloc (.cells #[.slice B0 s.on.length d0,.slice B1 s.ak.length d1,.slice B2 s.aA.length d2,.slice B3 s.aF.length d3,.slice B4 s.gY.length d4,.slice B5 s.O.length d5,.slice B6 s.bg.length d6] 31)):=((aj _ _).alloc (au _) _).alloc (by simp) _
 have lg:w.heap.size+1<((w.alloc (.cells #[.slice A0 s.on.length c0,.slice A1 s.ak.length c1,.slice A2 s.aA.length c2,.slice A3 s.aF.length c3,.slice A4 s.gY.length c4,.slice A5 s.O.length c5,.slice A6 s.bg.length c6] 31)).alloc (.cells #[.slice B0 s.on.length d0,.slice B1 s.ak.length d1,.slice B2 s.aA.length d2,.slice B3 s.aF.length d3,.slice B4 s.gY.length d4,.slice B5 s.O.length d5,.slice B6 s.bg.length d6] 31)).heap.size:=by simp
 have hz0:iV ((w.alloc (.cells #[.slice A0 s.on.length c0,.slice A1 s.ak.length c1,.slice A2 s.aA.length c2,.slice A3 s.aF.length c3,.slice A4 s.gY.length c4,.slice A5 s.O.length c5,.slice A6 s.bg.length c6] 31)).alloc (.cells #[.slice B0 s.on.length d0,.slice B1 s.ak.length d1,.slice B2 s.aA.length d2,.slice B3 s.aF.length d3,.slice B4 s.gY.length d4,.slice B5 s.O.length d5,.slice B6 s.bg.length d6] 31)) w.heap.size 31 [.slice A0 s.on.length c0,.slice A1 s.ak.length c1,.slice A2 s.aA.length c2,.slice A3 s.aF.length c3,.slice A4 s.gY.length c4,.slice A5 s.O.length c5,.slice A6 s.bg.length c6]/\
   iV ((w.alloc (.cells #[.slice A0 s.on.length c0,.slice A1 s.ak.length c1,.slice A2 s.aA.length c2,.slice A3 s.aF.length c3,.slice A4 s.gY.length c4,.slice A5 s.O.length c5,.slice A6 s.bg.length c6] 31)).alloc (.cells #[.slice B0 s.on.length d0,.slice B1 s.ak.length d1,.slice B2 s.aA.length d2,.slice B3 s.aF.length d3,.slice B4 s.gY.length d4,.slice B5 s.O.length d5,.slice B6 s.bg.length d6] 31)) (w.heap.size+1) 31 [.slice B0 s.on.length d0,.slice B1 s.ak.length d1,.slice B2 s.aA.length d2,.slice B3 s.aF.length d3,.slice B4 s.gY.length d4,.slice B5 s.O.length d5,.slice B6 s.bg.length d6]:=
  ⟨(iV.new _ _ _).alloc _,by have:=iV.new (w.alloc (.cells #[.slice A0 s.on.length c0,.slice A1 s.ak.length c1,.slice A2 s.aA.length c2,.slice A3 s.aF.length c3,.slice A4 s.gY.length c4,.slice A5 s.O.length c5,.slice A6 s.bg.length c6] 31)) 31 #[.slice B0 s.on.length d0,.slice B1 s.ak.length d1,.slice B2 s.aA.length d2,.slice B3 s.aF.length d3,.slice B4 s.gY.length d4,.slice B5 s.O.length d5,.slice B6 s.bg.length d6];simpa using this⟩
 have hql:=jky;have hqm:=jkx;have hg1:prog.eqGuardType prog.depth 44=false:=by kernel_rfl
 have hg2:prog.eqGuardType prog.depth 48=false:=by kernel_rfl
 have jqT:=ah hql;have jtl:=ah hqm;have hg1':=ah hg1;have jtR:=ah hg2;clear hql hqm hg1 hg2;go_enter func19,ntmps19
 go_wp2_with fail;generalize hW0:(w.alloc (.cells #[.slice A0 s.on.length c0,.slice A1 s.ak.length c1,.slice A2 s.aA.length c2,.slice A3 s.aF.length c3,.slice A4 s.gY.length c4,.slice A5 s.O.length c5,.slice A6 s.bg.length c6] 31)).alloc (.cells #[.slice B0 s.on.length d0,.slice B1 s.ak.length d1,.slice B2 s.aA.length d2,.slice B3 s.aF.length d3,.slice B4 s.gY.length d4,.slice B5 s.O.length d5,.slice B6 s.bg.length d6] 31)=W0 at hb0 lg hz0 ⊢
 have hz0':=ah hz0;clear hW0 hz0;have uZ:w.heap.size<W0.heap.size:=by omega
 have hKa:=ah (λW (hW:Below W0.heap.size W0 W) (j:Nat) (v:Value) (hj:[.slice A0 s.on.length c0,.slice A1 s.ak.length c1,.slice A2 s.aA.length c2,.slice A3 s.aF.length c3,.slice A4 s.gY.length c4,.slice A5 s.O.length c5,.slice A6 s.bg.length c6][j]?=some v)=>(hz0'.O.1.below hW uZ).cell hj)
 have hKb:=ah (λW (hW:Below W0.heap.size W0 W) (j:Nat) (v:Value) (hj:[.slice B0 s.on.length d0,.slice B1 s.ak.length d1,.slice B2 s.aA.length d2,.slice B3 s.aF.length d3,.slice B4 s.gY.length d4,.slice B5 s.O.length d5,.slice B6 s.bg.length d6][j]?=some v)=>(hz0'.O.2.below hW lg).cell hj)
 have xa0:=hKa.O W0 (aj W0.heap.size W0) 0 _ rfl;have xb0:=hKb.O W0 (aj W0.heap.size W0) 0 _ rfl;have xa1:=hKa.O W0 (aj W0.heap.size W0) 1 _ rfl;have xb1:=hKb.O W0 (aj W0.heap.size W0) 1 _ rfl;have xa2:=hKa.O W0 (aj W0.heap.size W0) 2 _ rfl;have xb2:=hKb.O W0 (aj W0.heap.size W0) 2 _ rfl;have xa3:=hKa.O W0 (aj W0.heap.size W0) 3 _ rfl;have xb3:=hKb.O W0 (aj W0.heap.size W0) 3 _ rfl;have xa4:=hKa.O W0 (aj W0.heap.size W0) 4 _ rfl;have xb4:=hKb.O W0 (aj W0.heap.size W0) 4 _ rfl;have xa5:=hKa.O W0 (aj W0.heap.size W0) 5 _ rfl;have xb5:=hKb.O W0 (aj W0.heap.size W0) 5 _ rfl;have xa6:=hKa.O W0 (aj W0.heap.size W0) 6 _ rfl;have xb6:=hKb.O W0 (aj W0.heap.size W0) 6 _ rfl;have eP:=aI lg (show W0.heap.size<=(World.heap W0).size from jc (aj W0.heap.size W0))
 have eU:=aI uZ (show W0.heap.size<=(World.heap W0).size from jc (aj W0.heap.size W0))
 go_wp2_with fail;clear xa0 xb0 xa1 xb1 xa2 xb2 xa3 xb3 xa4 xb4 xa5 xb5 xa6 xb6 eP eU;refine(jfN _ _ _ s.on s.on (hNa.O _ hb0) (hNb.O _ hb0)).mono ?_
 rintro e W1 ⟨rfl,h1⟩;rw[iG (rfl:s.on=s.on)];have hB1:=hb0.trans (h1.mono hb0.size);have xa0:=hKa.O W1 h1 0 _ rfl;have xb0:=hKb.O W1 h1 0 _ rfl;have xa1:=hKa.O W1 h1 1 _ rfl;have xb1:=hKb.O W1 h1 1 _ rfl;have xa2:=hKa.O W1 h1 2 _ rfl;have xb2:=hKb.O W1 h1 2 _ rfl;have xa3:=hKa.O W1 h1 3 _ rfl;have xb3:=hKb.O W1 h1 3 _ rfl;have xa4:=hKa.O W1 h1 4 _ rfl;have xb4:=hKb.O W1 h1 4 _ rfl;have xa5:=hKa.O W1 h1 5 _ rfl;have xb5:=hKb.O W1 h1 5 _ rfl;have xa6:=hKa.O W1 h1 6 _ rfl;have xb6:=hKb.O W1 h1 6 _ rfl;have eP:=aI lg (show W0.heap.size<=(World.heap W1).size from jc h1)
 have eU:=aI uZ (show W0.heap.size<=(World.heap W1).size from jc h1)
 go_wp2_with fail;clear xa0 xb0 xa1 xb1 xa2 xb2 xa3 xb3 xa4 xb4 xa5 xb5 xa6 xb6 eP eU;refine(jdm _ _ _ s.aA s.aA (hHa.O _ hB1) (hHb.O _ hB1)).mono ?_
 rintro e W2 ⟨rfl,h2⟩;rw[iG (rfl:s.aA=s.aA)];have h12:=h1.trans (h2.mono h1.size);have hB2:=hb0.trans (h12.mono hb0.size);have xa0:=hKa.O W2 h12 0 _ rfl;have xb0:=hKb.O W2 h12 0 _ rfl;have xa1:=hKa.O W2 h12 1 _ rfl;have xb1:=hKb.O W2 h12 1 _ rfl;have xa2:=hKa.O W2 h12 2 _ rfl;have xb2:=hKb.O W2 h12 2 _ rfl;have xa3:=hKa.O W2 h12 3 _ rfl;have xb3:=hKb.O W2 h12 3 _ rfl;have xa4:=hKa.O W2 h12 4 _ rfl;have xb4:=hKb.O W2 h12 4 _ rfl;have xa5:=hKa.O W2 h12 5 _ rfl;have xb5:=hKb.O W2 h12 5 _ rfl;have xa6:=hKa.O W2 h12 6 _ rfl;have xb6:=hKb.O W2 h12 6 _ rfl;have eP:=aI lg (show W0.heap.size<=(World.heap W2).size from jc h12)
 have eU:=aI uZ (show W0.heap.size<=(World.heap W2).size from jc h12)
 go_wp2_with fail;clear xa0 xb0 xa1 xb1 xa2 xb2 xa3 xb3 xa4 xb4 xa5 xb5 xa6 xb6 eP eU;refine(OX _ _ _ s.gY s.gY (hIa.O _ hB2) (hIb.O _ hB2)).mono ?_
 rintro e W3 ⟨rfl,h3⟩;rw[iG (rfl:s.gY=s.gY)];have h13:=h12.trans (h3.mono h12.size);have hB3:=hb0.trans (h13.mono hb0.size);have xa0:=hKa.O W3 h13 0 _ rfl;have xb0:=hKb.O W3 h13 0 _ rfl;have xa1:=hKa.O W3 h13 1 _ rfl;have xb1:=hKb.O W3 h13 1 _ rfl;have xa2:=hKa.O W3 h13 2 _ rfl;have xb2:=hKb.O W3 h13 2 _ rfl;have xa3:=hKa.O W3 h13 3 _ rfl;have xb3:=hKb.O W3 h13 3 _ rfl;have xa4:=hKa.O W3 h13 4 _ rfl;have xb4:=hKb.O W3 h13 4 _ rfl;have xa5:=hKa.O W3 h13 5 _ rfl;have xb5:=hKb.O W3 h13 5 _ rfl;have xa6:=hKa.O W3 h13 6 _ rfl;have xb6:=hKb.O W3 h13 6 _ rfl;have eP:=aI lg (show W0.heap.size<=(World.heap W3).size from jc h13)
 have eU:=aI uZ (show W0.heap.size<=(World.heap W3).size from jc h13)
 go_wp2_with fail;clear xa0 xb0 xa1 xb1 xa2 xb2 xa3 xb3 xa4 xb4 xa5 xb5 xa6 xb6 eP eU;refine(OX _ _ _ s.O s.O (hUa.O _ hB3) (hUb.O _ hB3)).mono ?_
 rintro e W4 ⟨rfl,h4⟩;rw[iG (rfl:s.O=s.O)];have YX:=h13.trans (h4.mono h13.size);have hB4:=hb0.trans (YX.mono hb0.size);have xa0:=hKa.O W4 YX 0 _ rfl;have xb0:=hKb.O W4 YX 0 _ rfl;have xa1:=hKa.O W4 YX 1 _ rfl;have xb1:=hKb.O W4 YX 1 _ rfl;have xa2:=hKa.O W4 YX 2 _ rfl;have xb2:=hKb.O W4 YX 2 _ rfl;have xa3:=hKa.O W4 YX 3 _ rfl;have xb3:=hKb.O W4 YX 3 _ rfl;have xa4:=hKa.O W4 YX 4 _ rfl;have xb4:=hKb.O W4 YX 4 _ rfl;have xa5:=hKa.O W4 YX 5 _ rfl;have xb5:=hKb.O W4 YX 5 _ rfl;have xa6:=hKa.O W4 YX 6 _ rfl;have xb6:=hKb.O W4 YX 6 _ rfl;have eP:=aI lg (show W0.heap.size<=(World.heap W4).size from jc YX)
 have eU:=aI uZ (show W0.heap.size<=(World.heap W4).size from jc YX)
 go_wp2_with fail;clear xa0 xb0 xa1 xb1 xa2 xb2 xa3 xb3 xa4 xb4 xa5 xb5 xa6 xb6 eP eU;refine(OX _ _ _ s.bg s.bg (hXa.O _ hB4) (hXb.O _ hB4)).mono ?_
 rintro e W5 ⟨rfl,h5⟩;rw[iG (rfl:s.bg=s.bg)];have h15:=YX.trans (h5.mono YX.size);have P6:=hb0.trans (h15.mono hb0.size);clear h1 h2 h3 h4 h5 h12 h13 YX hB1 hB2 hB3 hB4;have xa0:=hKa.O W5 h15 0 _ rfl;have xb0:=hKb.O W5 h15 0 _ rfl;have xa1:=hKa.O W5 h15 1 _ rfl;have xb1:=hKb.O W5 h15 1 _ rfl;have xa2:=hKa.O W5 h15 2 _ rfl;have xb2:=hKb.O W5 h15 2 _ rfl;have xa3:=hKa.O W5 h15 3 _ rfl;have xb3:=hKb.O W5 h15 3 _ rfl;have xa4:=hKa.O W5 h15 4 _ rfl;have xb4:=hKb.O W5 h15 4 _ rfl;have xa5:=hKa.O W5 h15 5 _ rfl;have xb5:=hKb.O W5 h15 5 _ rfl;have xa6:=hKa.O W5 h15 6 _ rfl;have xb6:=hKb.O W5 h15 6 _ rfl;have eP:=aI lg (show W0.heap.size<=(World.heap W5).size from jc h15)
 have eU:=aI uZ (show W0.heap.size<=(World.heap W5).size from jc h15)
 go_wp2_with fail;go_loopw[5,6,7,8] (λi _ _ _ wr=>∃k:Nat,k<=s.ak.length/\i=.int .i64 k/\Below W0.heap.size W0 wr) (λi _ _ _ _=>s.ak.length - (RowKit.intOf i).toNat)
 case atStart=>exact⟨0,aK _,rfl,h15⟩
 case round=>
  clear xa0 xb0 xa1 xb1 xa2 xb2 xa3 xb3 xa4 xb4 xa5 xb5 xa6 xb6 eP eU;clear h15 P6;obtain⟨k,hk,rfl,hbw⟩:=hrel;have hB:=hb0.trans (hbw.mono hb0.size);have xa0:=hKa.O wr hbw 0 _ rfl;have xb0:=hKb.O wr hbw 0 _ rfl;have xa1:=hKa.O wr hbw 1 _ rfl;have xb1:=hKb.O wr hbw 1 _ rfl;have xa2:=hKa.O wr hbw 2 _ rfl;have xb2:=hKb.O wr hbw 2 _ rfl;have xa3:=hKa.O wr hbw 3 _ rfl;have xb3:=hKb.O wr hbw 3 _ rfl;have xa4:=hKa.O wr hbw 4 _ rfl;have xb4:=hKb.O wr hbw 4 _ rfl;have xa5:=hKa.O wr hbw 5 _ rfl;have xb5:=hKb.O wr hbw 5 _ rfl;have xa6:=hKa.O wr hbw 6 _ rfl;have xb6:=hKb.O wr hbw 6 _ rfl;have eP:=aI lg (show W0.heap.size<=(World.heap wr).size from jc hbw)
  have eU:=aI uZ (show W0.heap.size<=(World.heap wr).size from jc hbw)
  by_cases hlt:k<s.ak.length
  ·obtain⟨A',c',ok1,lA1,e0,e1,hsa⟩:=(hOa.O wr hB).aC hlt;obtain⟨B',d',ok2,lB1,f0,f1,hsb⟩:=(hOb.O wr hB).aC hlt;go_wp2_with fail;go_region_held3 (λw'=>w'.cell? ⟨w.heap.size,1,none⟩=some (.slice A1 s.ak.length c1)/\w'.cell? ⟨w.heap.size+1,1,none⟩=some (.slice B1 s.ak.length d1)/\w'.cell? ⟨jd A1,ou A1+k*2,none⟩=some (.int .i64 (aU s.ak k).dW)/\w'.cell? ⟨jd A1,ou A1+k*2+1,none⟩=some (.slice A' (aU s.ak k).aH.length c')/\
    w'.cell? ⟨jd B1,ou B1+k*2,none⟩=some (.int .i64 (aU s.ak k).dW)/\w'.cell? ⟨jd B1,ou B1+k*2+1,none⟩=some (.slice B' (aU s.ak k).aH.length d')) (first|go_keep) (fail)
   ·generalize hWd:World.drew ((wr.alloc (.cells #[Value.int IntKind.i64 (aU s.ak k).dW,Value.slice A' (aU s.ak k).aH.length c'] 42)).alloc (.cells #[Value.int IntKind.i64 (aU s.ak k).dW,Value.slice B' (aU s.ak k).aH.length d'] 42))=Wd;have hbd:Below wr.heap.size wr Wd:=by rw[<- hWd];exact(((aj _ _).alloc (au _) _).alloc (by simp) _).drew
    have hx:iV Wd wr.heap.size 42 [.int .i64 (aU s.ak k).dW,.slice A' (aU s.ak k).aH.length c']:=by rw[<- hWd];exact((iV.new _ _ _).alloc _).drew
    have hy:iV Wd (wr.heap.size+1) 42 [.int .i64 (aU s.ak k).dW,.slice B' (aU s.ak k).aH.length d']:=by rw[<- hWd];exact iV.two _ _ _ _ _
    have hBd:=hB.trans (hbd.mono hB.size);have jiR:=hbw.trans (hbd.mono hbw.size);have hl3:=hsa.len;have jnd:=ah (λW (hW:Below wr.heap.size wr W)=>hsa.up hW hW.size)
    have jnc:=ah (λW (hW:Below wr.heap.size wr W)=>hsb.up hW hW.size)
    clear hWd ok1 ok2 lA1 lB1 e0 e1 f0 f1 hsa hsb;have hx0:=hx.cell (j:=0) rfl;have hx1:=hx.cell (j:=1) rfl;have hy0:=hy.cell (j:=0) rfl;have hy1:=hy.cell (j:=1) rfl;have hx':=ah hx;have hy':=ah hy;have hxl:=hx.lt;have hyl:=hy.lt;clear hx hy;clear xa0 xb0 xa1 xb1 xa2 xb2 xa3 xb3 xa4 xb4 xa5 xb5 xa6 xb6 eP eU;go_wp2_with fail;go_loopw[8] (λi W=>∃m:Nat,m<=(aU s.ak k).aH.length/\i=.int .i64 m/\Below Wd.heap.size Wd W) (λi _=>(aU s.ak k).aH.length - (RowKit.intOf i).toNat)
    case atStart=>exact⟨0,aK _,rfl,aj _ _⟩
    case round=>
     clear hx0 hx1 hy0 hy1;obtain⟨m,hm,rfl,hbi⟩:=hrel;have hx1:=(hx'.O.below hbi hxl).cell (j:=1) rfl;have hy1:=(hy'.O.below hbi hyl).cell (j:=1) rfl;have js1:=aI hxl hbi.size;have js0:=aI hyl hbi.size;by_cases hml:m<(aU s.ak k).aH.length
     ·have ji1:=hbd.trans (hbi.mono hbd.size);obtain⟨o1,o2,o3,o4,o5,o6⟩:=(jnd.O _ ji1).at_.aG hml;obtain⟨p1,p2,p3,p4,p5,p6⟩:=(jnc.O _ ji1).at_.aG hml;have hql:=jqT.O;have hg1:=hg1'.O;go_wp2_with fail;go_quiet (fail)
      go_wp2_with fail;clear hql hg1;go_roundw
      case rel=>exact⟨m+1,by omega,by go_num,below_drewN hbi _⟩
      case measure=>simp[RowKit.intOf];omega
     ·obtain rfl:m=(aU s.ak k).aH.length:=by omega
      go_wp2_with fail;go_roundw
      case rel=>exact⟨k+1,by omega,by go_num,jiR.trans (hbi.mono jiR.size)⟩
      case measure=>simp[RowKit.intOf];omega
   ·generalize hWd:World.drew ((wr.alloc (.cells #[Value.int IntKind.i64 (aU s.ak k).dW,Value.slice B' (aU s.ak k).aH.length d'] 42)).alloc (.cells #[Value.int IntKind.i64 (aU s.ak k).dW,Value.slice A' (aU s.ak k).aH.length c'] 42))=Wd;have hbd:Below wr.heap.size wr Wd:=by rw[<- hWd];exact(((aj _ _).alloc (au _) _).alloc (by simp) _).drew
    have hx:iV Wd (wr.heap.size+1) 42 [.int .i64 (aU s.ak k).dW,.slice A' (aU s.ak k).aH.length c']:=by rw[<- hWd];exact iV.two _ _ _ _ _
    have hy:iV Wd wr.heap.size 42 [.int .i64 (aU s.ak k).dW,.slice B' (aU s.ak k).aH.length d']:=by rw[<- hWd];exact((iV.new _ _ _).alloc _).drew
    have hBd:=hB.trans (hbd.mono hB.size);have jiR:=hbw.trans (hbd.mono hbw.size);have hl3:=hsa.len;have jnd:=ah (λW (hW:Below wr.heap.size wr W)=>hsa.up hW hW.size)
    have jnc:=ah (λW (hW:Below wr.heap.size wr W)=>hsb.up hW hW.size)
    clear hWd ok1 ok2 lA1 lB1 e0 e1 f0 f1 hsa hsb;have hx0:=hx.cell (j:=0) rfl;have hx1:=hx.cell (j:=1) rfl;have hy0:=hy.cell (j:=0) rfl;have hy1:=hy.cell (j:=1) rfl;have hx':=ah hx;have hy':=ah hy;have hxl:=hx.lt;have hyl:=hy.lt;clear hx hy;clear xa0 xb0 xa1 xb1 xa2 xb2 xa3 xb3 xa4 xb4 xa5 xb5 xa6 xb6 eP eU;go_wp2_with fail;go_loopw[8] (λi W=>∃m:Nat,m<=(aU s.ak k).aH.length/\i=.int .i64 m/\Below Wd.heap.size Wd W) (λi _=>(aU s.ak k).aH.length - (RowKit.intOf i).toNat)
    case atStart=>exact⟨0,aK _,rfl,aj _ _⟩
    case round=>
     clear hx0 hx1 hy0 hy1;obtain⟨m,hm,rfl,hbi⟩:=hrel;have hx1:=(hx'.O.below hbi hxl).cell (j:=1) rfl;have hy1:=(hy'.O.below hbi hyl).cell (j:=1) rfl;have js1:=aI hxl hbi.size;have js0:=aI hyl hbi.size;by_cases hml:m<(aU s.ak k).aH.length
     ·have ji1:=hbd.trans (hbi.mono hbd.size);obtain⟨o1,o2,o3,o4,o5,o6⟩:=(jnd.O _ ji1).at_.aG hml;obtain⟨p1,p2,p3,p4,p5,p6⟩:=(jnc.O _ ji1).at_.aG hml;have hql:=jqT.O;have hg1:=hg1'.O;go_wp2_with fail;go_quiet (fail)
      go_wp2_with fail;clear hql hg1;go_roundw
      case rel=>exact⟨m+1,by omega,by go_num,below_drewN hbi _⟩
      case measure=>simp[RowKit.intOf];omega
     ·obtain rfl:m=(aU s.ak k).aH.length:=by omega
      go_wp2_with fail;go_roundw
      case rel=>exact⟨k+1,by omega,by go_num,jiR.trans (hbi.mono jiR.size)⟩
      case measure=>simp[RowKit.intOf];omega
  ·obtain rfl:k=s.ak.length:=by omega
   go_wp2_with fail;go_loopw[9] (λi wr=>∃k:Nat,k<=s.aF.length/\i=.int .i64 k/\Below W0.heap.size W0 wr) (λi _=>s.aF.length - (RowKit.intOf i).toNat)
   case atStart=>exact⟨0,aK _,rfl,hbw⟩
   case round=>
    clear xa0 xb0 xa1 xb1 xa2 xb2 xa3 xb3 xa4 xb4 xa5 xb5 xa6 xb6 eP eU;clear hbw hB;obtain⟨k,hk,rfl,hbw⟩:=hrel;have hB:=hb0.trans (hbw.mono hb0.size);have xa0:=hKa.O wr hbw 0 _ rfl;have xb0:=hKb.O wr hbw 0 _ rfl;have xa1:=hKa.O wr hbw 1 _ rfl;have xb1:=hKb.O wr hbw 1 _ rfl;have xa2:=hKa.O wr hbw 2 _ rfl;have xb2:=hKb.O wr hbw 2 _ rfl;have xa3:=hKa.O wr hbw 3 _ rfl;have xb3:=hKb.O wr hbw 3 _ rfl;have xa4:=hKa.O wr hbw 4 _ rfl;have xb4:=hKb.O wr hbw 4 _ rfl;have xa5:=hKa.O wr hbw 5 _ rfl;have xb5:=hKb.O wr hbw 5 _ rfl;have xa6:=hKa.O wr hbw 6 _ rfl;have xb6:=hKb.O wr hbw 6 _ rfl;have eP:=aI lg (show W0.heap.size<=(World.heap wr).size from jc hbw)
    have eU:=aI uZ (show W0.heap.size<=(World.heap wr).size from jc hbw)
    by_cases hlt:k<s.aF.length
    ·obtain⟨o1,o2,o3,o4,o5,o6⟩:=(hMa.O wr hB).at_.move hlt;obtain⟨p1,p2,p3,p4,p5,p6⟩:=(hMb.O wr hB).at_.move hlt;have hqm:=jtl.O;have hg2:=jtR.O;go_wp2_with fail;go_quiet (fail)
     go_wp2_with fail;clear hqm hg2;go_roundw
     case rel=>exact⟨k+1,by omega,by go_num,below_drewN hbw _⟩
     case measure=>simp[RowKit.intOf];omega
    ·obtain rfl:k=s.aF.length:=by omega
     go_wp2_with fail;go_ret
     exact⟨rfl,hB⟩
end Wh
namespace Wh
open Go Go.RowKit Go.Shelf Go.Proofs Tryz
attribute [local go_sem] aT
theorem jdB(p:dA)(x:Line):(iK p x.dh=false/\tV p x=false)\/(iK p x.dh=true/\x.iw<1/\tV p x=false)\/(iK p x.dh=true/\1<=x.iw/\200<x.iw/\tV p x=false)\/
  (iK p x.dh=true/\1<=x.iw/\x.iw<=200/\x.oh<0/\tV p x=false)\/(iK p x.dh=true/\1<=x.iw/\x.iw<=200/\0<=x.oh/\x.iw<x.oh/\tV p x=false)\/
  (iK p x.dh=true/\1<=x.iw/\x.iw<=200/\0<=x.oh/\x.oh<=x.iw/\x.dP<0/\tV p x=false)\/(iK p x.dh=true/\1<=x.iw/\x.iw<=200/\0<=x.oh/\x.oh<=x.iw/\0<=x.dP/\x.iw<x.dP/\tV p x=false)\/
  (iK p x.dh=true/\1<=x.iw/\x.iw<=200/\0<=x.oh/\x.oh<=x.iw/\0<=x.dP/\x.dP<=x.iw/\tV p x=true):=by
 have h1:=@rP p x;have h2:=@vN p x.dh;cases hl:tV p x<;>cases hg:iK p x.dh<;>simp only[hl,hg,iE,vg,uG]at h1 h2<;>simp only[reduceCtorEq,mg,mD,false_and,qm,ny,wY]<;>omega
theorem jpb(w:World)(v:Value)(p:dA)(x:Line)(hp:mW w w.heap.size v p)(hz:gQ p=0):
  Calls prog 133 #[v,I5 x] w λe w'=>e=.returned (.bool (tV p x))/\Below w.heap.size w w':=by
 have hP:=hp;obtain⟨_,_,rfl,⟨Ab,cb,rfl,hlb,hb⟩,⟨As,cs,rfl,hls,hs⟩⟩:=hp;have hb1:lV p 0=true:=yT.2 (by have:=pJ hz;omega)
 have hb0:Below w.heap.size w ((w.alloc (.cells #[.slice Ab p.bQ.length cb,.slice As p.aP.length cs] 25)).alloc (.cells #[.int .i64 (x).dh,.int .i64 (x).iw,.int .i64 (x).oh,.int .i64 (x).dP] 44)):=((aj _ _).alloc (au _) _).alloc (by simp) _
 unfold I5;rcases jdB p x with⟨g1,hf⟩|⟨g1,g2,hf⟩|⟨g1,g2,g3,hf⟩|⟨g1,g2,g3,g4,hf⟩|⟨g1,g2,g3,g4,g5,hf⟩|⟨g1,g2,g3,g4,g5,g6,hf⟩|⟨g1,g2,g3,g4,g5,g6,g7,hf⟩|⟨g1,g2,g3,g4,g5,g6,g7,hf⟩
 all_goals
  have hth:(lV p 0&&iK p x.dh)=(iK p x.dh):=by rw[hb1];rfl
  have ZY:=ah hth;clear hth;have hf':=ah hf;clear hf;go_enter func133,ntmps133
  go_wp2_with fail;refine(JI _ _ p 0 x.dh (hP.grow hb0)).mono ?_
  rintro e W1 ⟨rfl,hc1⟩;have hB:=hb0.trans (hc1.mono hb0.size);obtain⟨ha1,hf1⟩:=xH hc1;rw[ZY.O,g1];go_wp2_with fail;go_ret
  exact⟨fK (by rw[hf'.O]<;>first|rfl|(simp<;>omega)),hB⟩
theorem jhb(w:World)(v vl:Value)(p:dA)(l:List Int)(lo:Int)(hp:mW w w.heap.size v p)(hl:Sl jJ w w.heap.size vl l)(hz:gQ p=0):
  Calls prog 141 #[v,vl,.int .i64 lo] w λe w'=>e=.returned (.bool (uN p l lo))/\Below w.heap.size w w':=by
 have hP:=hp;obtain⟨_,_,rfl,⟨Ab,cb,rfl,hlb,hb⟩,⟨As,cs,rfl,hls,hs⟩⟩:=hp;have hL:=hl;obtain⟨A,c,rfl,hll,hA⟩:=hl;have hcnt:=pJ hz;have hb0:Below w.heap.size w (w.alloc (.cells #[.slice Ab p.bQ.length cb,.slice As p.aP.length cs] 25)):=(aj _ _).alloc (au _) _;rcases jdb (p:=p) l lo (by omega)with⟨h1,h⟩|⟨h1,h2,h⟩|⟨h1,h2,h3,h⟩|⟨h1,h2,h3,h⟩
 ·have hne:((l.length:Int)==(p.aP.length:Int))=false:=by simp;omega
  have h':=ah h;clear h h1;go_enter func141,ntmps141
  go_wp2_with fail;go_ret
  exact⟨fK (by rw[h'.O]),hb0⟩
 all_goals
  have hne:((l.length:Int)==(p.aP.length:Int))=true:=by simp;omega
  have wK:0<l.length:=by omega
  have h':=ah h;clear h h1;go_enter func141,ntmps141
  go_wp2_with (first|(go_at_call 128;refine(jg1 _ _ l (hL.grow hb0) wK).mono ?_;rintro e w' ⟨rfl,rfl⟩)|(go_at_call 129;refine(jg2 _ _ l (hL.grow hb0) wK).mono ?_;rintro e w' ⟨rfl,rfl⟩))
  go_ret
  exact⟨fK (by rw[h'.O]<;>first|rfl|(simp<;>omega)),hb0⟩
theorem ja2(p:dA)(x:Line)(W:World)(B:Nat)(hz:gQ p=0)(Ab As:Option Addr)(cb cs:Nat)(h0:W.cell? ⟨B,0,none⟩=some (.slice Ab p.bQ.length cb))(h1:W.cell? ⟨B,1,none⟩=some (.slice As p.aP.length cs))(hB:B<W.heap.size)
  (hP:mW W W.heap.size (.agg #[.slice Ab p.bQ.length cb,.slice As p.aP.length cs]) p):
  Calls prog 132 #[I5 x,.pointer (some ⟨B,0,none⟩)] W λe W'=>e=.returned (.bool (!tV p x))/\Below W.heap.size W W':=by
 have hb0:Below W.heap.size W (W.alloc (.cells #[.int .i64 (x).dh,.int .i64 (x).iw,.int .i64 (x).oh,.int .i64 (x).dP] 44)):=(aj _ _).alloc (au _) _;have hz':=ah hz;clear hz;unfold I5;go_enter func132,ntmps132
 go_wp2_with fail;refine(jpb _ _ p x (hP.grow hb0) hz'.O).mono ?_
 rintro e W1 ⟨rfl,hc1⟩;go_wp2_with fail;go_ret
 exact⟨rfl,hb0.trans (hc1.mono hb0.size)⟩
theorem P9:Enters prog 132:=enters_of func132 (by kernel_rfl) rfl
theorem RD(p:dA)(s:aJ)(h:dZ):((s.ak.length:Int)<=h.aC/\yQ p s h=false)\/(h.aC<s.ak.length/\((s.aC h.aC.toNat).aH.length:Int)<=h.aG/\yQ p s h=false)\/
  (h.aC<s.ak.length/\h.aG<(s.aC h.aC.toNat).aH.length/\(p.bQ.length:Int)<=h.bin/\yQ p s h=false)\/(h.aC<s.ak.length/\h.aG<(s.aC h.aC.toNat).aH.length/\h.bin<p.bQ.length/\yQ p s h=true):=by
 have h1:=@nZ p s h;cases hl:yQ p s h<;>simp only[hl,iE,vg,uG]at h1<;>simp only[reduceCtorEq,mD,qm,ny,wY]<;>omega
theorem jkg(p:dA)(s:aJ)(h:dZ)(W:World)(Bs Bp:Nat)(A1 Ab:Option Addr)(c1 cb:Nat)(hs1:W.cell? ⟨Bs,1,none⟩=some (.slice A1 s.ak.length c1))(hp0:W.cell? ⟨Bp,0,none⟩=some (.slice Ab p.bQ.length cb))(hBs:Bs<W.heap.size)(hBp:Bp<W.heap.size)
  (hO:nJ W W.heap.size (.slice A1 s.ak.length c1) s.ak) (h0:0<=h.aC) (h72:s.ak.length<=1000) (SN:∀o,o<s.ak.length->(aU s.ak o).aH.length<=1000):
  Calls prog 134 #[um h,.pointer (some ⟨Bs,0,none⟩),.pointer (some ⟨Bp,0,none⟩)] W λe W'=>e=.returned (.bool (yQ p s h))/\Below W.heap.size W W':=by
 have hb0:Below W.heap.size W (W.alloc (.cells #[.int .i64 (h).aC,.int .i64 (h).aG,.int .i64 (h).bin,.int .i64 (h).n] 46)):=(aj _ _).alloc (au _) _;have hlW:W.heap.size<(W.alloc (.cells #[.int .i64 (h).aC,.int .i64 (h).aG,.int .i64 (h).bin,.int .i64 (h).n] 46)).heap.size:=by simp
 have q0:=λo d os=>bY (w:=W.alloc (.cells #[.int .i64 (h).aC,.int .i64 (h).aG,.int .i64 (h).bin,.int .i64 (h).n] 46)) (b:=Bs) (by simp;omega) o d os
 have q1:=λo d os=>bY (w:=W.alloc (.cells #[.int .i64 (h).aC,.int .i64 (h).aG,.int .i64 (h).bin,.int .i64 (h).n] 46)) (b:=Bp) (by simp;omega) o d os
 have q2:=λo d os=>bY (w:=W.alloc (.cells #[.int .i64 (h).aC,.int .i64 (h).aG,.int .i64 (h).bin,.int .i64 (h).n] 46)) (b:=W.heap.size) hlW o d os
 unfold um;rcases RD p s h with⟨g1,hf⟩|⟨g1,g2,hf⟩|⟨g1,g2,g3,hf⟩|⟨g1,g2,g3,hf⟩
 ·have hf':=ah hf;have d1:decide (h.aC<(s.ak.length:Int))=false:=by simpa using g1
  clear hf SN;go_enter func134,ntmps134
  go_wp2_with fail;refine dG (by kernel_rfl) (by kernel_rfl) ?_
  repeat(go_big_quiet_step (fail))
  refine wpQuiet_nil ?_
  intro W2 hw';have hb2:=dD hw';clear hw';go_wp2_with fail;go_ret
  exact⟨fK (by rw[hf'.O]),hb0.trans (hb2.mono hb0.size)⟩
 ·have hf':=ah hf;have hol:h.aC.toNat<s.ak.length:=by omega
  obtain⟨A',c',Jh,Gs,_,e1,hsl⟩:=hO.aC hol;have hll:=SN _ hol;unfold aJ.aC at g2
  have q3:=λo d os=>bY (w:=W.alloc (.cells #[.int .i64 (h).aC,.int .i64 (h).aG,.int .i64 (h).bin,.int .i64 (h).n] 46)) (b:=jd A1) (by simp;omega) o d os
  have d1:decide (h.aC<(s.ak.length:Int))=true:=by simpa using g1
  have d2:decide (h.aG<((aU s.ak h.aC.toNat).aH.length:Int))=false:=by simpa using g2
  clear hf SN;go_enter func134,ntmps134
  go_wp2_with fail;refine dG (by kernel_rfl) (by kernel_rfl) ?_
  repeat(go_big_quiet_step (fail))
  refine wpQuiet_nil ?_
  intro W2 hw';have hb2:=dD hw';clear hw';go_wp2_with fail;go_ret
  exact⟨fK (by rw[hf'.O]<;>first|rfl|(simp<;>omega)),hb0.trans (hb2.mono hb0.size)⟩
 ·have hf':=ah hf;have hol:h.aC.toNat<s.ak.length:=by omega
  obtain⟨A',c',Jh,Gs,_,e1,hsl⟩:=hO.aC hol;have hll:=SN _ hol;unfold aJ.aC at g2
  have q3:=λo d os=>bY (w:=W.alloc (.cells #[.int .i64 (h).aC,.int .i64 (h).aG,.int .i64 (h).bin,.int .i64 (h).n] 46)) (b:=jd A1) (by simp;omega) o d os
  have d1:decide (h.aC<(s.ak.length:Int))=true:=by simpa using g1
  have d2:decide (h.aG<((aU s.ak h.aC.toNat).aH.length:Int))=true:=by simpa using g2
  have d3:decide (h.bin<(p.bQ.length:Int))=false:=by simpa using g3
  clear hf SN;go_enter func134,ntmps134
  go_wp2_with fail;refine dG (by kernel_rfl) (by kernel_rfl) ?_
  repeat(go_big_quiet_step (fail))
  refine wpQuiet_nil ?_
  intro W2 hw';have hb2:=dD hw';clear hw';go_wp2_with fail;go_ret
  exact⟨fK (by rw[hf'.O]<;>first|rfl|(simp<;>omega)),hb0.trans (hb2.mono hb0.size)⟩
 ·have hf':=ah hf;have hol:h.aC.toNat<s.ak.length:=by omega
  obtain⟨A',c',Jh,Gs,_,e1,hsl⟩:=hO.aC hol;have hll:=SN _ hol;unfold aJ.aC at g2
  have q3:=λo d os=>bY (w:=W.alloc (.cells #[.int .i64 (h).aC,.int .i64 (h).aG,.int .i64 (h).bin,.int .i64 (h).n] 46)) (b:=jd A1) (by simp;omega) o d os
  have d1:decide (h.aC<(s.ak.length:Int))=true:=by simpa using g1
  have d2:decide (h.aG<((aU s.ak h.aC.toNat).aH.length:Int))=true:=by simpa using g2
  have d3:decide (h.bin<(p.bQ.length:Int))=true:=by simpa using g3
  clear hf SN;go_enter func134,ntmps134
  go_wp2_with fail;refine dG (by kernel_rfl) (by kernel_rfl) ?_
  repeat(go_big_quiet_step (fail))
  refine wpQuiet_nil ?_
  intro W2 hw';have hb2:=dD hw';clear hw';go_wp2_with fail;go_ret
  exact⟨fK (by rw[hf'.O]<;>first|rfl|(simp<;>omega)),hb0.trans (hb2.mono hb0.size)⟩
end Wh
namespace Wh
open Go Go.RowKit Go.Shelf Go.Proofs Tryz
attribute [local go_sem] aT
theorem jdz(p:dA)(x:Move):((lV p x.src&&iK p x.dh)=false/\sO p x=false)\/((lV p x.src&&iK p x.dh)=true/\(lV p x.dst&&iK p x.dh)=false/\sO p x=false)\/
  ((lV p x.src&&iK p x.dh)=true/\(lV p x.dst&&iK p x.dh)=true/\(x.src !=x.dst)=false/\sO p x=false)\/
  ((lV p x.src&&iK p x.dh)=true/\(lV p x.dst&&iK p x.dh)=true/\(x.src !=x.dst)=true/\x.n<1/\sO p x=false)\/
  ((lV p x.src&&iK p x.dh)=true/\(lV p x.dst&&iK p x.dh)=true/\(x.src !=x.dst)=true/\1<=x.n/\200<x.n/\sO p x=false)\/
  ((lV p x.src&&iK p x.dh)=true/\(lV p x.dst&&iK p x.dh)=true/\(x.src !=x.dst)=true/\1<=x.n/\x.n<=200/\sO p x=true):=by
 unfold sO;have hw:=@dV x.n 1 200;cases lV p x.src<;>cases iK p x.dh<;>cases lV p x.dst<;>by_cases h:x.src=x.dst<;>cases hq:cZ x.n 1 200<;>simp[h,hq]at hw ⊢<;>omega
theorem jkf(p:dA)(x:Move)(W:World)(B:Nat)(Ab As:Option Addr)(cb cs:Nat)(h0:W.cell? ⟨B,0,none⟩=some (.slice Ab p.bQ.length cb))(h1:W.cell? ⟨B,1,none⟩=some (.slice As p.aP.length cs))(hB:B<W.heap.size)
  (hP:mW W W.heap.size (.agg #[.slice Ab p.bQ.length cb,.slice As p.aP.length cs]) p):
  Calls prog 135 #[D8 x,.pointer (some ⟨B,0,none⟩)] W λe W'=>e=.returned (.bool (sO p x))/\Below W.heap.size W W':=by
 have hb0:Below W.heap.size W (W.alloc (.cells #[.int .i64 (x).dh,.int .i64 (x).src,.int .i64 (x).dst,.int .i64 (x).n] 48)):=(aj _ _).alloc (au _) _;have hBl:B<(W.alloc (.cells #[.int .i64 (x).dh,.int .i64 (x).src,.int .i64 (x).dst,.int .i64 (x).n] 48)).heap.size:=by simp;omega
 unfold D8;rcases jdz p x with⟨g1,hf⟩|⟨g1,g2,hf⟩|⟨g1,g2,g3,hf⟩|⟨g1,g2,g3,g4,hf⟩|⟨g1,g2,g3,g4,g5,hf⟩|⟨g1,g2,g3,g4,g5,hf⟩
 ·have hf':=ah hf;have g1':=ah g1;clear hf g1;go_enter func135,ntmps135
  go_wp2_with fail;refine(JI _ _ p x.src x.dh (hP.grow hb0)).mono ?_
  rintro e W1 ⟨rfl,hc1⟩;rw[g1'.O];go_wp2_with fail;go_ret
  exact⟨fK (by rw[hf'.O]),hb0.trans (hc1.mono hb0.size)⟩
 all_goals
  have hf':=ah hf;have g1':=ah g1;have g2':=ah g2;clear hf g1 g2;go_enter func135,ntmps135
  go_wp2_with fail;refine(JI _ _ p x.src x.dh (hP.grow hb0)).mono ?_
  rintro e W1 ⟨rfl,hc1⟩;have X3:=hb0.trans (hc1.mono hb0.size);obtain⟨hd1,hf1⟩:=xH hc1;rw[g1'.O];go_wp2_with fail;refine(JI _ _ p x.dst x.dh (hP.grow X3)).mono ?_
  rintro e W2 ⟨rfl,hc2⟩;have hc12:=hc1.trans (hc2.mono hc1.size);obtain⟨hd2,hf2⟩:=xH hc12;clear hd1 hf1;rw[g2'.O];go_wp2_with fail;go_ret
  exact⟨fK (by rw[hf'.O]<;>first|rfl|(simp<;>omega)),hb0.trans (hc12.mono hb0.size)⟩
theorem jhe(p:dA)(s:aJ)(h:dZ)(W:World)(Bc Bs Bp:Nat)(A1 Ab:Option Addr)(c1 cb:Nat)(hc:W.cell? ⟨Bc,0,none⟩=some (.func (.func 134) #[] #[.pointer (some ⟨Bs,0,none⟩),.pointer (some ⟨Bp,0,none⟩)]))(hBc:Bc<W.heap.size)
  (hs1:W.cell? ⟨Bs,1,none⟩=some (.slice A1 s.ak.length c1)) (hp0:W.cell? ⟨Bp,0,none⟩=some (.slice Ab p.bQ.length cb)) (hBs:Bs<W.heap.size) (hBp:Bp<W.heap.size)
  (hO:nJ W W.heap.size (.slice A1 s.ak.length c1) s.ak) (h0:0<=h.aC) (h72:s.ak.length<=1000) (SN:∀o,o<s.ak.length->(aU s.ak o).aH.length<=1000):
  Calls prog 138 #[um h,.pointer (some ⟨Bc,0,none⟩)] W λe W'=>e=.returned (.bool (!yQ p s h))/\Below W.heap.size W W':=by
 have hb0:Below W.heap.size W (W.alloc (.cells #[.int .i64 (h).aC,.int .i64 (h).aG,.int .i64 (h).bin,.int .i64 (h).n] 46)):=(aj _ _).alloc (au _) _;have hl':=ah SN;have r1:(W.alloc (.cells #[.int .i64 (h).aC,.int .i64 (h).aG,.int .i64 (h).bin,.int .i64 (h).n] 46)).cell? ⟨Bs,1,none⟩=some (.slice A1 s.ak.length c1):=(hb0.cell (p:=⟨Bs,1,none⟩) hBs).trans hs1;have r2:(W.alloc (.cells #[.int .i64 (h).aC,.int .i64 (h).aG,.int .i64 (h).bin,.int .i64 (h).n] 46)).cell? ⟨Bp,0,none⟩=some (.slice Ab p.bQ.length cb):=(hb0.cell (p:=⟨Bp,0,none⟩) hBp).trans hp0;have H:=ah (jkg p s h (W.alloc (.cells #[.int .i64 (h).aC,.int .i64 (h).aG,.int .i64 (h).bin,.int .i64 (h).n] 46)) Bs Bp A1 Ab c1 cb r1 r2 (by simp;omega) (by simp;omega) (hO.up hb0 hb0.size) h0 h72 SN)
 clear SN r1 r2;unfold um;go_enter func138,ntmps138
 go_wp2_with fail;refine H.O.mono ?_
 rintro e W1 ⟨rfl,hc1⟩;go_wp2_with fail;go_ret
 exact⟨rfl,hb0.trans (hc1.mono hb0.size)⟩
theorem Yb:Enters prog 138:=enters_of func138 (by kernel_rfl) rfl
theorem jhd(p:dA)(x:Move)(W:World)(Bc B:Nat)(Ab As:Option Addr)(cb cs:Nat)(hc:W.cell? ⟨Bc,0,none⟩=some (.func (.func 135) #[] #[.pointer (some ⟨B,0,none⟩)]))(hBc:Bc<W.heap.size)
  (h0:W.cell? ⟨B,0,none⟩=some (.slice Ab p.bQ.length cb)) (h1:W.cell? ⟨B,1,none⟩=some (.slice As p.aP.length cs)) (hB:B<W.heap.size)
  (hP:mW W W.heap.size (.agg #[.slice Ab p.bQ.length cb,.slice As p.aP.length cs]) p):
  Calls prog 140 #[D8 x,.pointer (some ⟨Bc,0,none⟩)] W λe W'=>e=.returned (.bool (!sO p x))/\Below W.heap.size W W':=by
 have hb0:Below W.heap.size W (W.alloc (.cells #[.int .i64 (x).dh,.int .i64 (x).src,.int .i64 (x).dst,.int .i64 (x).n] 48)):=(aj _ _).alloc (au _) _;have r1:(W.alloc (.cells #[.int .i64 (x).dh,.int .i64 (x).src,.int .i64 (x).dst,.int .i64 (x).n] 48)).cell? ⟨B,0,none⟩=some (.slice Ab p.bQ.length cb):=(hb0.cell (p:=⟨B,0,none⟩) hB).trans h0;have r2:(W.alloc (.cells #[.int .i64 (x).dh,.int .i64 (x).src,.int .i64 (x).dst,.int .i64 (x).n] 48)).cell? ⟨B,1,none⟩=some (.slice As p.aP.length cs):=(hb0.cell (p:=⟨B,1,none⟩) hB).trans h1;have H:=ah (jkf p x (W.alloc (.cells #[.int .i64 (x).dh,.int .i64 (x).src,.int .i64 (x).dst,.int .i64 (x).n] 48)) B Ab As cb cs r1 r2 (by simp;omega) (hP.grow hb0))
 clear r1 r2;unfold D8;go_enter func140,ntmps140
 go_wp2_with fail;refine H.O.mono ?_
 rintro e W1 ⟨rfl,hc1⟩;go_wp2_with fail;go_ret
 exact⟨rfl,hb0.trans (hc1.mono hb0.size)⟩
theorem Ya:Enters prog 140:=enters_of func140 (by kernel_rfl) rfl
theorem jfK(o:Order)(u:Value)(W:World)(hu:Sl kP W W.heap.size u o.aH):
  Calls prog 77 #[.agg #[.int .i64 o.dW,u]] W λe W'=>e=.returned (.bool (!cZ o.aH.length 1 3))/\Below W.heap.size W W':=by
 obtain⟨A,c,rfl,hl,hA⟩:=hu;have hb0:Below W.heap.size W (W.alloc (.cells #[.int .i64 o.dW,.slice A o.aH.length c] 42)):=(aj _ _).alloc (au _) _;have hp:(o.aH.length<1/\cZ o.aH.length 1 3=false)\/(1<=o.aH.length/\3<o.aH.length/\cZ o.aH.length 1 3=false)\/(1<=o.aH.length/\o.aH.length<=3/\cZ o.aH.length 1 3=true):=by
  have h1:=@dV o.aH.length 1 3;cases hq:cZ o.aH.length 1 3<;>simp only[hq,iE,vg,uG]at h1<;>simp only[reduceCtorEq,mD,qm,ny,wY]<;>omega
 rcases hp with⟨g1,hf⟩|⟨g1,g2,hf⟩|⟨g1,g2,hf⟩
 all_goals
  have hf':=ah hf;clear hf;go_enter func77,ntmps77
  go_wp2_with fail;go_ret
  exact⟨fK (by rw[hf'.O]<;>first|rfl|(simp<;>omega)),hb0⟩
theorem WZ:Enters prog 77:=enters_of func77 (by kernel_rfl) rfl
end Wh
