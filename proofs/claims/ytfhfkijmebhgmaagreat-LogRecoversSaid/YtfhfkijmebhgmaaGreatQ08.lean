/- Texts of the claim, joined. -/
import Derived.Test.YtfhfkijmebhgmaaGreatChecked
import Derived.Test.YtfhfkijmebhgmaaGreatQ07
import Derived.Test.YtfhfkijmebhgmaaGreatQ02
set_option maxHeartbeats 20000000
set_option maxRecDepth 100000
namespace Wh
open Go Go.RowKit Go.Shelf Go.Proofs Tryz
attribute [local go_sem] aT
theorem ZW(w:World)(v:Value)(l:List Bin)(g:FuncId)(lb:Array Value)(pred:Bin->Bool)(eg:Enters prog g)(hv:Sl PG w w.heap.size v l)
  (hf:∀k,k<l.length->∀W,Below w.heap.size w W->Calls prog g (#[jj8 (l9 l k)]++lb) W λe W'=>e=.returned (.bool (pred (l9 l k)))/\Below W.heap.size W W'):
  Calls prog 168 #[v,.func (.func g) #[] lb] w λe w'=>e=.returned (.int .i64 (idxOf pred l))/\Below w.heap.size w w':=by
 obtain⟨A,c,rfl,hl,hA⟩:=hv;have eg':∀args w,Sem.run prog (callFunc g args) w=.ok (.enter g args) w:=eg;go_enter func168,ntmps168
 go_wp2_with fail;go_loopw[5,8] (λ_ i wr=>∃k:Nat,k<=l.length/\i=.int .i64 k/\(∀j,j<k->pred (l9 l j)=false)/\Below w.heap.size w wr) (λ_ i _=>l.length - (RowKit.intOf i).toNat)
 case atStart=>exact⟨0,aK _,rfl,λj hj=>by omega,aj _ _⟩
 case round=>
  obtain⟨k,hk,rfl,kE,hbw⟩:=hrel;have hal:∀j (hj:j<k),pred (l[j]'(by omega))=false:=λj hj=>by have:=kE j hj;rwa [Jw (by omega)]at this
  by_cases hlt:k<l.length
  ·obtain⟨hok,LG,b0,b1,b2,b3⟩:=(hA.up hbw hbw.size).bin hlt;go_wp2_with fail;refine(hf k hlt _ hbw).mono ?_
   rintro e W1 ⟨rfl,hb1⟩;have sF:=hbw.trans (hb1.mono hbw.size);cases hp:pred (l9 l k)
   ·go_wp2_with fail;go_roundw
    case rel=>
     refine⟨k+1,by omega,by go_num,λj hj=>?_,sF⟩
     rcases aS.1 hj with h|rfl
     ·exact kE j h
     ·exact hp
    case measure=>simp[RowKit.intOf];omega
   ·go_wp2_with fail;go_ret
    exact⟨iF (KP hlt (by rw[Jw hlt]at hp;exact hp) hal),sF⟩
  ·obtain rfl:k=l.length:=by omega
   go_wp2_with fail;go_ret
   exact⟨iF (Gn λj hj=>by have:=kE j hj;rwa [Jw hj]at this),hbw⟩
theorem UF(w:World)(v:Value)(l:List Bin)(g:FuncId)(lb:Array Value)(pred:Bin->Bool)(eg:Enters prog g)(hv:Sl PG w w.heap.size v l)
  (hf:∀k,k<l.length->∀W,Below w.heap.size w W->Calls prog g (#[jj8 (l9 l k)]++lb) W λe W'=>e=.returned (.bool (pred (l9 l k)))/\Below W.heap.size W W'):
  Calls prog 148 #[v,.func (.func g) #[] lb] w λe w'=>e=.returned (.bool (l.any pred))/\Below w.heap.size w w':=by
 have H:=ah (ZW w v l g lb pred eg hv hf);clear hf;go_enter func148,ntmps148
 go_wp2_with fail;refine H.O.mono ?_
 rintro e W1 ⟨rfl,hb1⟩;go_wp2_with fail;go_ret
 exact⟨fK (IK pred l),hb1⟩
theorem XT(w:World)(v:Value)(l:List Line)(g:FuncId)(lb:Array Value)(pred:Line->Bool)(eg:Enters prog g)(hv:Sl kP w w.heap.size v l)
  (hf:∀k,k<l.length->∀W,Below w.heap.size w W->Calls prog g (#[I5 (gK l k)]++lb) W λe W'=>e=.returned (.bool (pred (gK l k)))/\Below W.heap.size W W'):
  Calls prog 152 #[v,.func (.func g) #[] lb] w λe w'=>e=.returned (.int .i64 (idxOf pred l))/\Below w.heap.size w w':=by
 obtain⟨A,c,rfl,hl,hA⟩:=hv;have eg':∀args w,Sem.run prog (callFunc g args) w=.ok (.enter g args) w:=eg;go_enter func152,ntmps152
 go_wp2_with fail;go_loopw[5,8] (λ_ i wr=>∃k:Nat,k<=l.length/\i=.int .i64 k/\(∀j,j<k->pred (gK l j)=false)/\Below w.heap.size w wr) (λ_ i _=>l.length - (RowKit.intOf i).toNat)
 case atStart=>exact⟨0,aK _,rfl,λj hj=>by omega,aj _ _⟩
 case round=>
  obtain⟨k,hk,rfl,kE,hbw⟩:=hrel;have hal:∀j (hj:j<k),pred (l[j]'(by omega))=false:=λj hj=>by have:=kE j hj;rwa [qw (by omega)]at this
  by_cases hlt:k<l.length
  ·obtain⟨hok,LG,b0,b1,b2,b3⟩:=(hA.up hbw hbw.size).aG hlt;go_wp2_with fail;refine(hf k hlt _ hbw).mono ?_
   rintro e W1 ⟨rfl,hb1⟩;have sF:=hbw.trans (hb1.mono hbw.size);cases hp:pred (gK l k)
   ·go_wp2_with fail;go_roundw
    case rel=>
     refine⟨k+1,by omega,by go_num,λj hj=>?_,sF⟩
     rcases aS.1 hj with h|rfl
     ·exact kE j h
     ·exact hp
    case measure=>simp[RowKit.intOf];omega
   ·go_wp2_with fail;go_ret
    exact⟨iF (KP hlt (by rw[qw hlt]at hp;exact hp) hal),sF⟩
  ·obtain rfl:k=l.length:=by omega
   go_wp2_with fail;go_ret
   exact⟨iF (Gn λj hj=>by have:=kE j hj;rwa [qw hj]at this),hbw⟩
theorem xO(w:World)(v:Value)(l:List Line)(g:FuncId)(lb:Array Value)(pred:Line->Bool)(eg:Enters prog g)(hv:Sl kP w w.heap.size v l)
  (hf:∀k,k<l.length->∀W,Below w.heap.size w W->Calls prog g (#[I5 (gK l k)]++lb) W λe W'=>e=.returned (.bool (pred (gK l k)))/\Below W.heap.size W W'):
  Calls prog 95 #[v,.func (.func g) #[] lb] w λe w'=>e=.returned (.bool (l.any pred))/\Below w.heap.size w w':=by
 have H:=ah (XT w v l g lb pred eg hv hf);clear hf;go_enter func95,ntmps95
 go_wp2_with fail;refine H.O.mono ?_
 rintro e W1 ⟨rfl,hb1⟩;go_wp2_with fail;go_ret
 exact⟨fK (IK pred l),hb1⟩
theorem PX(w:World)(v:Value)(l:List dZ)(g:FuncId)(lb:Array Value)(pred:dZ->Bool)(eg:Enters prog g)(hv:Sl ig w w.heap.size v l)
  (hf:∀k,k<l.length->∀W,Below w.heap.size w W->Calls prog g (#[um (hold l k)]++lb) W λe W'=>e=.returned (.bool (pred (hold l k)))/\Below W.heap.size W W'):
  Calls prog 153 #[v,.func (.func g) #[] lb] w λe w'=>e=.returned (.int .i64 (idxOf pred l))/\Below w.heap.size w w':=by
 obtain⟨A,c,rfl,hl,hA⟩:=hv;have eg':∀args w,Sem.run prog (callFunc g args) w=.ok (.enter g args) w:=eg;go_enter func153,ntmps153
 go_wp2_with fail;go_loopw[5,8] (λ_ i wr=>∃k:Nat,k<=l.length/\i=.int .i64 k/\(∀j,j<k->pred (hold l j)=false)/\Below w.heap.size w wr) (λ_ i _=>l.length - (RowKit.intOf i).toNat)
 case atStart=>exact⟨0,aK _,rfl,λj hj=>by omega,aj _ _⟩
 case round=>
  obtain⟨k,hk,rfl,kE,hbw⟩:=hrel;have hal:∀j (hj:j<k),pred (l[j]'(by omega))=false:=λj hj=>by have:=kE j hj;rwa [iL (by omega)]at this
  by_cases hlt:k<l.length
  ·obtain⟨hok,LG,b0,b1,b2,b3⟩:=(hA.up hbw hbw.size).hold hlt;go_wp2_with fail;refine(hf k hlt _ hbw).mono ?_
   rintro e W1 ⟨rfl,hb1⟩;have sF:=hbw.trans (hb1.mono hbw.size);cases hp:pred (hold l k)
   ·go_wp2_with fail;go_roundw
    case rel=>
     refine⟨k+1,by omega,by go_num,λj hj=>?_,sF⟩
     rcases aS.1 hj with h|rfl
     ·exact kE j h
     ·exact hp
    case measure=>simp[RowKit.intOf];omega
   ·go_wp2_with fail;go_ret
    exact⟨iF (KP hlt (by rw[iL hlt]at hp;exact hp) hal),sF⟩
  ·obtain rfl:k=l.length:=by omega
   go_wp2_with fail;go_ret
   exact⟨iF (Gn λj hj=>by have:=kE j hj;rwa [iL hj]at this),hbw⟩
theorem Tn(w:World)(v:Value)(l:List dZ)(g:FuncId)(lb:Array Value)(pred:dZ->Bool)(eg:Enters prog g)(hv:Sl ig w w.heap.size v l)
  (hf:∀k,k<l.length->∀W,Below w.heap.size w W->Calls prog g (#[um (hold l k)]++lb) W λe W'=>e=.returned (.bool (pred (hold l k)))/\Below W.heap.size W W'):
  Calls prog 137 #[v,.func (.func g) #[] lb] w λe w'=>e=.returned (.bool (l.any pred))/\Below w.heap.size w w':=by
 have H:=ah (PX w v l g lb pred eg hv hf);clear hf;go_enter func137,ntmps137
 go_wp2_with fail;refine H.O.mono ?_
 rintro e W1 ⟨rfl,hb1⟩;go_wp2_with fail;go_ret
 exact⟨fK (IK pred l),hb1⟩
theorem PW(w:World)(v:Value)(l:List Move)(g:FuncId)(lb:Array Value)(pred:Move->Bool)(eg:Enters prog g)(hv:Sl nP w w.heap.size v l)
  (hf:∀k,k<l.length->∀W,Below w.heap.size w W->Calls prog g (#[D8 (bH l k)]++lb) W λe W'=>e=.returned (.bool (pred (bH l k)))/\Below W.heap.size W W'):
  Calls prog 159 #[v,.func (.func g) #[] lb] w λe w'=>e=.returned (.int .i64 (idxOf pred l))/\Below w.heap.size w w':=by
 obtain⟨A,c,rfl,hl,hA⟩:=hv;have eg':∀args w,Sem.run prog (callFunc g args) w=.ok (.enter g args) w:=eg;go_enter func159,ntmps159
 go_wp2_with fail;go_loopw[5,8] (λ_ i wr=>∃k:Nat,k<=l.length/\i=.int .i64 k/\(∀j,j<k->pred (bH l j)=false)/\Below w.heap.size w wr) (λ_ i _=>l.length - (RowKit.intOf i).toNat)
 case atStart=>exact⟨0,aK _,rfl,λj hj=>by omega,aj _ _⟩
 case round=>
  obtain⟨k,hk,rfl,kE,hbw⟩:=hrel;have hal:∀j (hj:j<k),pred (l[j]'(by omega))=false:=λj hj=>by have:=kE j hj;rwa [pI (by omega)]at this
  by_cases hlt:k<l.length
  ·obtain⟨hok,LG,b0,b1,b2,b3⟩:=(hA.up hbw hbw.size).move hlt;go_wp2_with fail;refine(hf k hlt _ hbw).mono ?_
   rintro e W1 ⟨rfl,hb1⟩;have sF:=hbw.trans (hb1.mono hbw.size);cases hp:pred (bH l k)
   ·go_wp2_with fail;go_roundw
    case rel=>
     refine⟨k+1,by omega,by go_num,λj hj=>?_,sF⟩
     rcases aS.1 hj with h|rfl
     ·exact kE j h
     ·exact hp
    case measure=>simp[RowKit.intOf];omega
   ·go_wp2_with fail;go_ret
    exact⟨iF (KP hlt (by rw[pI hlt]at hp;exact hp) hal),sF⟩
  ·obtain rfl:k=l.length:=by omega
   go_wp2_with fail;go_ret
   exact⟨iF (Gn λj hj=>by have:=kE j hj;rwa [pI hj]at this),hbw⟩
theorem Tm(w:World)(v:Value)(l:List Move)(g:FuncId)(lb:Array Value)(pred:Move->Bool)(eg:Enters prog g)(hv:Sl nP w w.heap.size v l)
  (hf:∀k,k<l.length->∀W,Below w.heap.size w W->Calls prog g (#[D8 (bH l k)]++lb) W λe W'=>e=.returned (.bool (pred (bH l k)))/\Below W.heap.size W W'):
  Calls prog 139 #[v,.func (.func g) #[] lb] w λe w'=>e=.returned (.bool (l.any pred))/\Below w.heap.size w w':=by
 have H:=ah (PW w v l g lb pred eg hv hf);clear hf;go_enter func139,ntmps139
 go_wp2_with fail;refine H.O.mono ?_
 rintro e W1 ⟨rfl,hb1⟩;go_wp2_with fail;go_ret
 exact⟨fK (IK pred l),hb1⟩
theorem ZV(w:World)(v:Value)(l:List (List Int))(g:FuncId)(lb:Array Value)(pred:(List Int)->Bool)(eg:Enters prog g)(hv:FW jJ w w.heap.size v l)
  (hf:∀k,k<l.length->∀W,Below w.heap.size w W->∀u,Sl jJ W W.heap.size u (fO l k)->Calls prog g (#[u]++lb) W λe W'=>e=.returned (.bool (pred (fO l k)))/\Below W.heap.size W W'):
  Calls prog 166 #[v,.func (.func g) #[] lb] w λe w'=>e=.returned (.int .i64 (idxOf pred l))/\Below w.heap.size w w':=by
 obtain⟨A,c,vs,rfl,hl,hvl,hA,G9⟩:=hv;have eg':∀args w,Sem.run prog (callFunc g args) w=.ok (.enter g args) w:=eg;go_enter func166,ntmps166
 go_wp2_with fail;go_loopw[5,8] (λ_ i wr=>∃k:Nat,k<=l.length/\i=.int .i64 k/\(∀j,j<k->pred (fO l j)=false)/\Below w.heap.size w wr) (λ_ i _=>l.length - (RowKit.intOf i).toNat)
 case atStart=>exact⟨0,aK _,rfl,λj hj=>by omega,aj _ _⟩
 case round=>
  obtain⟨k,hk,rfl,kE,hbw⟩:=hrel;have hal:∀j (hj:j<k),pred (l[j]'(by omega))=false:=λj hj=>by have:=kE j hj;rwa [xZ (by omega)]at this
  by_cases hlt:k<l.length
  ·obtain⟨A',c',hok,LG,hcu,hsu⟩:=(show FW jJ wr wr.heap.size _ l from FW.up ⟨A,c,vs,rfl,hl,hvl,hA,G9⟩ hbw hbw.size).row hlt
   go_wp2_with fail;refine(hf k hlt _ hbw _ hsu).mono ?_
   rintro e W1 ⟨rfl,hb1⟩;have sF:=hbw.trans (hb1.mono hbw.size);cases hp:pred (fO l k)
   ·go_wp2_with fail;go_roundw
    case rel=>
     refine⟨k+1,by omega,by go_num,λj hj=>?_,sF⟩
     rcases aS.1 hj with h|rfl
     ·exact kE j h
     ·exact hp
    case measure=>simp[RowKit.intOf];omega
   ·go_wp2_with fail;go_ret
    exact⟨iF (KP hlt (by rw[xZ hlt]at hp;exact hp) hal),sF⟩
  ·obtain rfl:k=l.length:=by omega
   go_wp2_with fail;go_ret
   exact⟨iF (Gn λj hj=>by have:=kE j hj;rwa [xZ hj]at this),hbw⟩
theorem UE(w:World)(v:Value)(l:List (List Int))(g:FuncId)(lb:Array Value)(pred:(List Int)->Bool)(eg:Enters prog g)(hv:FW jJ w w.heap.size v l)
  (hf:∀k,k<l.length->∀W,Below w.heap.size w W->∀u,Sl jJ W W.heap.size u (fO l k)->Calls prog g (#[u]++lb) W λe W'=>e=.returned (.bool (pred (fO l k)))/\Below W.heap.size W W'):
  Calls prog 130 #[v,.func (.func g) #[] lb] w λe w'=>e=.returned (.bool (l.any pred))/\Below w.heap.size w w':=by
 have H:=ah (ZV w v l g lb pred eg hv hf);clear hf;go_enter func130,ntmps130
 go_wp2_with fail;refine H.O.mono ?_
 rintro e W1 ⟨rfl,hb1⟩;go_wp2_with fail;go_ret
 exact⟨fK (IK pred l),hb1⟩
theorem VZ(w:World)(v:Value)(l:List Order)(g:FuncId)(lb:Array Value)(pred:Order->Bool)(eg:Enters prog g)(hv:nJ w w.heap.size v l)
  (hf:∀k,k<l.length->∀W,Below w.heap.size w W->∀u,Sl kP W W.heap.size u (aU l k).aH->Calls prog g (#[.agg #[.int .i64 (aU l k).dW,u]]++lb) W λe W'=>e=.returned (.bool (pred (aU l k)))/\Below W.heap.size W W'):
  Calls prog 131 #[v,.func (.func g) #[] lb] w λe w'=>e=.returned (.int .i64 (idxOf pred l))/\Below w.heap.size w w':=by
 obtain⟨A,c,vs,rfl,hl,hvl,hA,G9⟩:=hv;have eg':∀args w,Sem.run prog (callFunc g args) w=.ok (.enter g args) w:=eg;go_enter func131,ntmps131
 go_wp2_with fail;go_loopw[5,8] (λ_ i wr=>∃k:Nat,k<=l.length/\i=.int .i64 k/\(∀j,j<k->pred (aU l j)=false)/\Below w.heap.size w wr) (λ_ i _=>l.length - (RowKit.intOf i).toNat)
 case atStart=>exact⟨0,aK _,rfl,λj hj=>by omega,aj _ _⟩
 case round=>
  obtain⟨k,hk,rfl,kE,hbw⟩:=hrel;have hal:∀j (hj:j<k),pred (l[j]'(by omega))=false:=λj hj=>by have:=kE j hj;rwa [uy (by omega)]at this
  by_cases hlt:k<l.length
  ·obtain⟨A',c',hok,LG,hc0,hcu,hsu⟩:=(show nJ wr wr.heap.size _ l from nJ.up ⟨A,c,vs,rfl,hl,hvl,hA,G9⟩ hbw hbw.size).aC hlt
   go_wp2_with fail;refine(hf k hlt _ hbw _ hsu).mono ?_
   rintro e W1 ⟨rfl,hb1⟩;have sF:=hbw.trans (hb1.mono hbw.size);cases hp:pred (aU l k)
   ·go_wp2_with fail;go_roundw
    case rel=>
     refine⟨k+1,by omega,by go_num,λj hj=>?_,sF⟩
     rcases aS.1 hj with h|rfl
     ·exact kE j h
     ·exact hp
    case measure=>simp[RowKit.intOf];omega
   ·go_wp2_with fail;go_ret
    exact⟨iF (KP hlt (by rw[uy hlt]at hp;exact hp) hal),sF⟩
  ·obtain rfl:k=l.length:=by omega
   go_wp2_with fail;go_ret
   exact⟨iF (Gn λj hj=>by have:=kE j hj;rwa [uy hj]at this),hbw⟩
theorem RQ(w:World)(v:Value)(l:List Order)(g:FuncId)(lb:Array Value)(pred:Order->Bool)(eg:Enters prog g)(hv:nJ w w.heap.size v l)
  (hf:∀k,k<l.length->∀W,Below w.heap.size w W->∀u,Sl kP W W.heap.size u (aU l k).aH->Calls prog g (#[.agg #[.int .i64 (aU l k).dW,u]]++lb) W λe W'=>e=.returned (.bool (pred (aU l k)))/\Below W.heap.size W W'):
  Calls prog 76 #[v,.func (.func g) #[] lb] w λe w'=>e=.returned (.bool (l.any pred))/\Below w.heap.size w w':=by
 have H:=ah (VZ w v l g lb pred eg hv hf);clear hf;go_enter func76,ntmps76
 go_wp2_with fail;refine H.O.mono ?_
 rintro e W1 ⟨rfl,hb1⟩;go_wp2_with fail;go_ret
 exact⟨fK (IK pred l),hb1⟩
end Wh
namespace Wh
open Go Go.RowKit Go.Shelf Go.Proofs Tryz
attribute [local go_sem] aT
theorem L9:Elem prog 3 (.int .i64 0) 1 8:=Iu (by kernel_rfl)
theorem jmN(w:World)(v:Value)(p:dA)(hp:mW w w.heap.size v p)(hn:p.bQ.length<=100):
  Calls prog 126 #[v] w (Gives (λu w'=>Own jJ 1 3 w' w.heap.size u (x9 (way p))) w):=by
 obtain⟨_,_,rfl,⟨Ab,cb,rfl,hlb,hb⟩,⟨As,cs,rfl,hls,hs⟩⟩:=hp;have hb0:Below w.heap.size w (w.alloc (.cells #[.slice Ab p.bQ.length cb,.slice As p.aP.length cs] 25)):=(aj _ _).alloc (au _) _;go_enter func126,ntmps126
 go_wp2_with fail;go_loopw[3,4] (λu i wr=>∃k:Nat,k<=p.bQ.length/\i=.int .i64 k/\Own jJ 1 3 wr (w.heap.size+1) u (x9 (uT p true k))/\Below w.heap.size w wr/\w.heap.size<wr.heap.size/\wr.cell? ⟨w.heap.size,0,none⟩=some (.slice Ab p.bQ.length cb)) (λ_ i _=>p.bQ.length - (RowKit.intOf i).toNat)
 case atStart=>exact⟨0,aK _,rfl,Own.nil,hb0,by simp,by simp⟩
 case round=>
  obtain⟨k,hk,rfl,lC,hbw,hsz,hc0⟩:=hrel;by_cases hlt:k<p.bQ.length
  ·obtain⟨hok,LG,b0,b1,b2,b3⟩:=(hb.up hbw hbw.size).bin hlt;have hmax:k<=9223372036854775806:=by omega
   cases hf:(l9 p.bQ k).front
   ·go_wp2_with fail;go_roundw
    case rel=>exact⟨k+1,by omega,by go_num,by rw[Gi (by rw[hf];decide)];exact lC,hbw,hsz,hc0⟩
    case measure=>simp[RowKit.intOf];omega
   ·have kD:(x9 (uT p true k)).length<=1000000:=by rw[CV];have:=C9 p true k;omega
    go_wp2_with (at_builtin;refine aW ?_)
    unfold Hid;refine lS _ rfl (.tmp 19) (.tmp 21) 23 3 rfl (w.heap.size+1) _ 1 8 underlying23 L9 rfl (by decide) (by decide) u3 (x9 (uT p true k)) (k:Int) rfl (lC.alloc _) ⟨wr.heap.size,0,none⟩ 1 rfl rfl (cell_one_new _ _ _) (UU _) kD (by simp;omega) ?_
    intro v1 w1 yj hg1 jb7 FC;have sF:Below w.heap.size w w1:=(hbw.alloc hbw.size _).trans (FC.mono (by omega))
    have uZ:w.heap.size<w1.heap.size:=by have:=hg1.size;simp at this;omega
    have hc1:w1.cell? ⟨w.heap.size,0,none⟩=some (.slice Ab p.bQ.length cb):=by
     rw[FC.cell (p:=⟨w.heap.size,0,none⟩) (by simp),sZ _ _ _ hsz];exact hc0
    go_wp2_with fail;go_roundw
    case rel=>exact⟨k+1,by omega,by go_num,by rw[EO hf,TN];exact yj,sF,uZ,hc1⟩
    case measure=>simp[RowKit.intOf];omega
  ·obtain rfl:k=p.bQ.length:=by omega
   rw[JV]at lC
   go_wp2_with fail;go_loopw[3,5] (λu i wr=>∃k:Nat,k<=p.bQ.length/\i=.int .i64 k/\Own jJ 1 3 wr (w.heap.size+1) u (x9 (EP p true++uT p false k))/\Below w.heap.size w wr/\w.heap.size<wr.heap.size/\wr.cell? ⟨w.heap.size,0,none⟩=some (.slice Ab p.bQ.length cb)) (λ_ i _=>p.bQ.length - (RowKit.intOf i).toNat)
   case atStart=>exact⟨0,aK _,rfl,by simpa[uT]using lC,hbw,hsz,hc0⟩
   case round=>
    clear lC hbw hsz hc0;obtain⟨k,hk,rfl,lC,hbw,hsz,hc0⟩:=hrel;by_cases hlt:k<p.bQ.length
    ·obtain⟨hok,LG,b0,b1,b2,b3⟩:=(hb.up hbw hbw.size).bin hlt;cases hf:(l9 p.bQ k).front
     ·have kD:(x9 (EP p true++uT p false k)).length<=1000000:=by
       rw[CV,aZ];have h1:=C9 p false k;have h2:=C9 p true p.bQ.length;rw[JV]at h2;omega
      go_wp2_with (at_builtin;refine aW ?_)
      unfold Hid;refine lS _ rfl (.tmp 37) (.tmp 39) 23 3 rfl (w.heap.size+1) _ 1 8 underlying23 L9 rfl (by decide) (by decide) u3 (x9 (EP p true++uT p false k)) (k:Int) rfl (lC.alloc _) ⟨wr.heap.size,0,none⟩ 1 rfl rfl (cell_one_new _ _ _) (UU _) kD (by simp;omega) ?_
      intro v1 w1 yj hg1 jb7 FC;have sF:Below w.heap.size w w1:=(hbw.alloc hbw.size _).trans (FC.mono (by omega))
      have uZ:w.heap.size<w1.heap.size:=by have:=hg1.size;simp at this;omega
      have hc1:w1.cell? ⟨w.heap.size,0,none⟩=some (.slice Ab p.bQ.length cb):=by
       rw[FC.cell (p:=⟨w.heap.size,0,none⟩) (by simp),sZ _ _ _ hsz];exact hc0
      go_wp2_with fail;go_roundw
      case rel=>exact⟨k+1,by omega,by go_num,by rw[EO hf,<- eH,TN];exact yj,sF,uZ,hc1⟩
      case measure=>simp[RowKit.intOf];omega
     ·go_wp2_with fail;go_roundw
      case rel=>exact⟨k+1,by omega,by go_num,by rw[Gi (by rw[hf];decide)];exact lC,hbw,hsz,hc0⟩
      case measure=>simp[RowKit.intOf];omega
    ·obtain rfl:k=p.bQ.length:=by omega
     go_wp2_with fail;go_ret
     exact⟨_,rfl,lC.from_ (by omega),hbw⟩
end Wh
namespace Wh
open Go Go.RowKit Go.Proofs Tryz
structure SV where
 on:Value
 ak:Value
 aA:Value
 aF:Value
 gY:Value
 O:Value
 bg:Value
 rows:List Value
 aH:List Value
def SV.cells(V:SV):List Value:=[V.on,V.ak,V.aA,V.aF,V.gY,V.O,V.bg]
def SV.val(V:SV):Value:=.agg #[V.on,V.ak,V.aA,V.aF,V.gY,V.O,V.bg]
def mJ:Value:=.slice none 0 0
def SV.row(V:SV)(b:Nat):Value:=V.rows.getD b mJ
def SV.aG(V:SV)(o:Nat):Value:=V.aH.getD o mJ
def Nl(x:Int×Value):List Value:=[.int .i64 x.1,x.2]
def zI(l:List Order)(vs:List Value):List (Int×Value):=List.zipWith (λo u=>(o.dW,u)) l vs
def D6(vs:List Value):Prop:=vs.Pairwise λa b=>∀g,a.ownBlock=some g->b.ownBlock≠some g
structure dK(w:World)(aO:Nat)(V:SV)(s:aJ):Prop where
 on:Own (λu:Value=>[u]) 1 23 w aO V.on V.rows
 rlen:V.rows.length=s.on.length
 row:∀b,b<s.on.length->Own jJ 1 3 w aO (V.row b) (fO s.on b)
 ak:Own Nl 2 42 w aO V.ak (zI s.ak V.aH)
 llen:V.aH.length=s.ak.length
 aG:∀o,o<s.ak.length->Own kP 4 44 w aO (V.aG o) (s.aC o).aH
 aA:Own ig 4 46 w aO V.aA s.aA
 aF:Own nP 4 48 w aO V.aF s.aF
 gY:Own jJ 1 3 w aO V.gY s.gY
 O:Own jJ 1 3 w aO V.O s.O
 bg:Own jJ 1 3 w aO V.bg s.bg
 apart:D6 (V.rows++[V.gY,V.O,V.bg])
 yS:D6 V.aH
theorem uJ{l:List Order}{vs:List Value}(h:vs.length=l.length):(zI l vs).length=l.length:=by
 unfold zI;rw[CB];omega
theorem jbk{l:List Order}{vs:List Value}{i:Nat}(h:vs.length=l.length)(hi:i<l.length):(zI l vs)[i]?=some ((aU l i).dW,vs.getD i mJ):=by
 unfold zI;rw[qc,bf hi,bf (by omega),uy hi]
 simp[show i<vs.length by omega]
theorem jjQ{vs:List Value}(h:D6 vs){i j:Nat}(hi:i<vs.length)(hj:j<vs.length)(hne:i≠j){g:Nat}(hg:(vs.getD i mJ).ownBlock=some g):(vs.getD j mJ).ownBlock≠some g:=by
 have e1:vs.getD i mJ=vs[i]:=by simp[hi]
 have e2:vs.getD j mJ=vs[j]:=by simp[hj]
 rw[e1]at hg
 rw[e2];rcases Nat.lt_or_gt_of_ne hne with h1|h1
 ·exact iY.1 h i j hi hj h1 g hg
 ·intro he;exact iY.1 h j i hj hi h1 g he hg
theorem Lr{vs:List Value}(h:D6 vs){i j:Nat}(hi:i<vs.length)(hj:j<vs.length)(hne:i≠j):(vs.getD i mJ).ownBlock=none\/(vs.getD i mJ).ownBlock≠(vs.getD j mJ).ownBlock:=by
 cases hb:(vs.getD i mJ).ownBlock with
 |none=>exact .inl rfl
 |some g=>exact .inr λhe=>jjQ h hi hj hne hb he.symm
namespace dK
variable {w w':World} {aO:Nat} {V:SV} {s:aJ}
theorem below(h:dK w aO V s)(hb:Below w.heap.size w w'):dK w' aO V s:=
 ⟨h.on.below hb,h.rlen,λb hlt=>(h.row b hlt).below hb,h.ak.below hb,h.llen,λo ho=>(h.aG o ho).below hb,h.aA.below hb,h.aF.below hb,h.gY.below hb,h.O.below hb,h.bg.below hb,h.apart,h.yS⟩
theorem alloc(h:dK w aO V s)(o:Obj):dK (w.alloc o) aO V s:=h.below ((aj _ _).alloc (au _) _)
theorem drew(h:dK w aO V s):dK w.drew aO V s:=h.below (aj _ _).drew
theorem from_(h:dK w aO V s){base':Nat}(hb:base'<=aO):dK w base' V s:=
 ⟨h.on.from_ hb,h.rlen,λb hlt=>(h.row b hlt).from_ hb,h.ak.from_ hb,h.llen,λo ho=>(h.aG o ho).from_ hb,h.aA.from_ hb,h.aF.from_ hb,h.gY.from_ hb,h.O.from_ hb,h.bg.from_ hb,h.apart,h.yS⟩
theorem jhf(h:dK w aO V s){b:Nat}(hb:b<s.on.length):V.rows[b]?=some (V.row b):=by
 unfold SV.row;simp[show b<V.rows.length by rw[h.rlen];exact hb]
theorem je7(h:dK w aO V s){o:Nat}(ho:o<s.ak.length):V.aH[o]?=some (V.aG o):=by
 unfold SV.aG;simp[show o<V.aH.length by rw[h.llen];exact ho]
theorem view(h:dK w aO V s){p:dA}(hs:o9 p s):lK w w.heap.size V.val s:=by
 have h72:=su hs.aA;have h8:=hs.vJ;have h4:=hs.qH;have hc:=hs.counts;have hon:=hs.tY;obtain⟨A,c,hv,_,hA⟩:=h.on.sl (by rw[h.rlen];omega)
 obtain⟨A1,c1,hv1,_,hA1⟩:=h.ak.sl (by rw[uJ h.llen];omega)
 refine⟨_,_,_,_,_,_,_,rfl,⟨A,c,V.rows,by rw[hv,h.rlen],by omega,h.rlen,?_,λi x hi=>?_⟩,⟨A1,c1,V.aH,by rw[hv1,uJ h.llen],by omega,h.llen,?_,λi x hi=>?_⟩,h.aA.sl (by omega),h.aF.sl (by omega),h.gY.sl (by rw[hs.gY.1];omega),h.O.sl (by rw[hs.O.1];omega),h.bg.sl (by rw[hs.bg.1];omega)⟩
 ·have:V.rows.flatMap (λu=>[u])=V.rows:=by simp
  rw[this]at hA
  exact hA
 ·have hil:i<s.on.length:=(eF.1 hi).1
  have hx:fO s.on i=x:=by rw[xZ hil];exact(eF.1 hi).2
  exact⟨_,h.jhf hil,by rw[<- hx];exact(h.row i hil).sl (by rw[hs.rowLen (by omega)];omega)⟩
 ·have e:(s.ak.zip V.aH).flatMap (λx=>[Value.int .i64 x.1.dW,x.2])=(zI s.ak V.aH).flatMap Nl:=by
   unfold zI Nl;rw[Cj,wR,wR,wQ,wQ]
  rw[e];exact hA1
 ·have hil:i<s.ak.length:=(eF.1 hi).1
  have hx:s.aC i=x:=by unfold aJ.aC;rw[uy hil];exact(eF.1 hi).2
  have:=hs.tN hil;rw[hx]at this
  exact⟨_,h.je7 hil,by rw[<- hx];exact(h.aG i hil).sl (by rw[hx];omega)⟩
theorem jfc(V:SV):(V.rows++[V.gY,V.O,V.bg]).getD (V.rows.length+0) mJ=V.gY:=by simp
theorem jeW(V:SV):(V.rows++[V.gY,V.O,V.bg]).getD (V.rows.length+1) mJ=V.O:=by simp
theorem UY(V:SV):(V.rows++[V.gY,V.O,V.bg]).getD (V.rows.length+2) mJ=V.bg:=by simp
theorem Vm(V:SV){b:Nat}(hb:b<V.rows.length):(V.rows++[V.gY,V.O,V.bg]).getD b mJ=V.row b:=by
 unfold SV.row;simp[fE hb]
theorem lenV(V:SV):(V.rows++[V.gY,V.O,V.bg]).length=V.rows.length+3:=by simp
theorem jhH(h:dK w aO V s)(hb:Below w.heap.size w w'){v:Value}{l:List dZ}(hv:Own ig 4 46 w' aO v l):dK w' aO {V with aA:=v} {s with aA:=l}:=
 let k:=h.below hb
 ⟨k.on,k.rlen,k.row,k.ak,k.llen,k.aG,hv,k.aF,k.gY,k.O,k.bg,k.apart,k.yS⟩
theorem VJ(h:dK w aO V s)(hg:w.grownBy w' V.aF.ownBlock){v:Value}{l:List Move}(hv:Own nP 4 48 w' aO v l):dK w' aO {V with aF:=v} {s with aF:=l}:=
 ⟨h.on.kept hg (h.on.apart h.aF (by decide)),h.rlen,λb hb=>(h.row b hb).kept hg ((h.row b hb).apart h.aF (by decide)),h.ak.kept hg (h.ak.apart h.aF (by decide)),h.llen,λo ho=>(h.aG o ho).kept hg ((h.aG o ho).apart h.aF (by decide)),h.aA.kept hg (h.aA.apart h.aF (by decide)),hv,h.gY.kept hg (h.gY.apart h.aF (by decide)),h.O.kept hg (h.O.apart h.aF (by decide)),h.bg.kept hg (h.bg.apart h.aF (by decide)),h.apart,h.yS⟩
theorem U4(h:dK w aO V s)(hg:w.grownBy w' V.aA.ownBlock){v:Value}{l:List dZ}(hv:Own ig 4 46 w' aO v l):dK w' aO {V with aA:=v} {s with aA:=l}:=
 ⟨h.on.kept hg (h.on.apart h.aA (by decide)),h.rlen,λb hb=>(h.row b hb).kept hg ((h.row b hb).apart h.aA (by decide)),h.ak.kept hg (h.ak.apart h.aA (by decide)),h.llen,λo ho=>(h.aG o ho).kept hg ((h.aG o ho).apart h.aA (by decide)),hv,h.aF.kept hg (h.aF.apart h.aA (by decide)),h.gY.kept hg (h.gY.apart h.aA (by decide)),h.O.kept hg (h.O.apart h.aA (by decide)),h.bg.kept hg (h.bg.apart h.aA (by decide)),h.apart,h.yS⟩
theorem SE{s:aJ}{o o':Nat}{x:Order}(ho:o<s.ak.length):aU (s.ak.set o x) o'=if o'=o then x else s.aC o':=by
 unfold aJ.aC aU;by_cases h:o'=o
 ·subst h;simp[ho]
 ·rw[ay h];simp[zO h]
theorem jbj{l:List Order}{vs:List Value}{o:Nat}{x:Order}(hx:x.dW=(aU l o).dW):zI (l.set o x) vs=zI l vs:=by
 unfold zI;apply ni;intro i;rw[qc,qc,qo]
 by_cases h:o=i
 ·subst h;rw[aB rfl];by_cases hl:o<l.length
  ·rw[aB hl,bf hl]
   cases vs[o]? with
   |none=>rfl
   |some u=>
    simp only;rw[hx,uy hl]
  ·rw[ay hl,kZ (show l.length<=o by omega)]
 ·rw[ay h]
theorem lY(h:dK w aO V s){o k:Nat}(ho:o<s.ak.length)(hk:k<(s.aC o).aH.length){gl n c:Nat}(hv:V.aG o=.slice (some ⟨gl,0,none⟩) n c){j:Nat}(hj:j<4){y:Line}{u:Value}
  (hy:kP y=(kP (s.aG o k)).set j u):dK (w.setCell ⟨gl,k*4+j,none⟩ u) aO V (s.lY o k y)/\w.grownBy (w.setCell ⟨gl,k*4+j,none⟩ u) (some gl):=by
 have hl:=h.aG o ho;have hl':=hl;rw[hv]at hl'
 have hlk:s.aG o k=(s.aC o).aH[k]:=by unfold aJ.aG;rw[qw hk]
 obtain⟨o1,hg⟩:=hl'.store (λ_=>rfl) hk hj (y:=y) (u:=u) (by rw[hy,hlk])
 have hob:(V.aG o).ownBlock=some gl:=by rw[hv];rfl
 have hg':w.grownBy (w.setCell ⟨gl,k*4+j,none⟩ u) (V.aG o).ownBlock:=by rw[hob];exact hg
 have kD:(s.lY o k y).ak.length=s.ak.length:=by unfold aJ.lY;simp
 have hor:∀o',(s.lY o k y).aC o'=if o'=o then {s.aC o with aH:=(s.aC o).aH.set k y}else s.aC o':=λo'=>SE ho
 refine⟨⟨h.on.kept hg' (h.on.apart hl (by decide)),h.rlen,λb hb=>(h.row b hb).kept hg' ((h.row b hb).apart hl (by decide)),?_,by rw[kD];exact h.llen,λo' ho'=>?_,h.aA.kept hg' (h.aA.apart hl (by decide)),h.aF.kept hg' (h.aF.apart hl (by decide)),h.gY.kept hg' (h.gY.apart hl (by decide)),h.O.kept hg' (h.O.apart hl (by decide)),h.bg.kept hg' (h.bg.apart hl (by decide)),h.apart,h.yS⟩,hg⟩
 ·have e:zI (s.lY o k y).ak V.aH=zI s.ak V.aH:=jbj rfl;rw[e];exact h.ak.kept hg' (h.ak.apart hl (by decide))
 ·rw[kD]at ho'
  rw[hor];by_cases he:o'=o
  ·subst he;rw[aB rfl,hv];exact o1
  ·rw[ay he];exact(h.aG o' ho').kept hg' (Lr h.yS (by rw[h.llen];exact ho') (by rw[h.llen];exact ho) he)
theorem setKind(h:dK w aO V s){o:Nat}(ho:o<s.ak.length){go n c:Nat}(hv:V.ak=.slice (some ⟨go,0,none⟩) n c)(q:Int):
  dK (w.setCell ⟨go,o*2,none⟩ (.int .i64 q)) aO V {s with ak:=s.ak.set o {s.aC o with dW:=q}}/\w.grownBy (w.setCell ⟨go,o*2,none⟩ (.int .i64 q)) (some go):=by
 have hl:=h.ak;have hl':=hl;rw[hv]at hl'
 have hol:o<(zI s.ak V.aH).length:=by rw[uJ h.llen];exact ho
 have hget:(zI s.ak V.aH)[o]=((aU s.ak o).dW,V.aH.getD o mJ):=by
  have:=jbk h.llen ho;rw[bf hol]at this
  exact dQ this
 obtain⟨o1,hg⟩:=hl'.store (i:=o) (λ_=>rfl) hol (show 0<2 by omega) (y:=(q,V.aH.getD o mJ)) (u:=.int .i64 q) (by rw[hget];rfl)
 have hob:V.ak.ownBlock=some go:=by rw[hv];rfl
 rw[jB]at o1 hg
 have hg':w.grownBy (w.setCell ⟨go,o*2,none⟩ (.int .i64 q)) V.ak.ownBlock:=by rw[hob];exact hg
 have kD:(s.ak.set o {s.aC o with dW:=q}).length=s.ak.length:=by simp
 refine⟨⟨h.on.kept hg' (h.on.apart hl (by decide)),h.rlen,λb hb=>(h.row b hb).kept hg' ((h.row b hb).apart hl (by decide)),?_,by rw[kD];exact h.llen,λo' ho'=>?_,h.aA.kept hg' (h.aA.apart hl (by decide)),h.aF.kept hg' (h.aF.apart hl (by decide)),h.gY.kept hg' (h.gY.apart hl (by decide)),h.O.kept hg' (h.O.apart hl (by decide)),h.bg.kept hg' (h.bg.apart hl (by decide)),h.apart,h.yS⟩,hg⟩
 ·rw[hv];have e:zI (s.ak.set o {s.aC o with dW:=q}) V.aH=(zI s.ak V.aH).set o (q,V.aH.getD o mJ):=by
   unfold zI;apply ni;intro i;rw[qc,qo,qo,qc]
   by_cases he:o=i
   ·subst he;have hvl:o<V.aH.length:=by rw[h.llen];exact ho
    rw[aB rfl,aB ho,aB rfl,aB (by rw[CB];omega),bf hvl]
    simp[hvl]
   ·rw[ay he,ay he]
  show Own Nl 2 42 _ aO _ (zI (s.ak.set o {s.aC o with dW:=q}) V.aH)
  rw[e];exact o1
 ·rw[kD]at ho'
  have hor:aJ.aC {s with ak:=s.ak.set o {s.aC o with dW:=q}} o'=if o'=o then {s.aC o with dW:=q}else s.aC o':=SE ho
  rw[hor];have k1:=(h.aG o' ho').kept hg' ((h.aG o' ho').apart hl (by decide))
  by_cases he:o'=o
  ·subst he;rw[aB rfl];exact k1
  ·rw[ay he];exact k1
theorem Yv(h:dK w aO V s){b g:Nat}(hb:b<s.on.length)(hgl:g<(fO s.on b).length){gr n c:Nat}(hv:V.row b=.slice (some ⟨gr,0,none⟩) n c)(q:Int):
  dK (w.setCell ⟨gr,g,none⟩ (.int .i64 q)) aO V {s with on:=setCell s.on b g q}/\w.grownBy (w.setCell ⟨gr,g,none⟩ (.int .i64 q)) (some gr):=by
 have hl:=h.row b hb;have hl':=hl;rw[hv]at hl'
 obtain⟨o1,hg⟩:=hl'.store (i:=g) (λ_=>rfl) hgl (show 0<1 by omega) (y:=q) (u:=.int .i64 q) rfl
 rw[nC,jB]at o1 hg
 have hob:(V.row b).ownBlock=some gr:=by rw[hv];rfl
 have hg':w.grownBy (w.setCell ⟨gr,g,none⟩ (.int .i64 q)) (V.row b).ownBlock:=by rw[hob];exact hg
 have hbV:b<V.rows.length:=by rw[h.rlen];exact hb
 have key:∀i,i<V.rows.length+3->i≠b->((V.rows++[V.gY,V.O,V.bg]).getD i mJ).ownBlock=none\/((V.rows++[V.gY,V.O,V.bg]).getD i mJ).ownBlock≠(V.row b).ownBlock:=λi hi hne=>by
  have:=Lr h.apart (i:=i) (j:=b) (by rw[lenV];exact hi) (by rw[lenV];omega) hne
  rw[Vm V hbV]at this
  exact this
 refine⟨⟨h.on.kept hg' (h.on.apart hl (by decide)),by rw[qh];exact h.rlen,λi hi=>?_,h.ak.kept hg' (h.ak.apart hl (by decide)),h.llen,λo ho=>(h.aG o ho).kept hg' ((h.aG o ho).apart hl (by decide)),h.aA.kept hg' (h.aA.apart hl (by decide)),h.aF.kept hg' (h.aF.apart hl (by decide)),h.gY.kept hg' ?_,h.O.kept hg' ?_,h.bg.kept hg' ?_,h.apart,h.yS⟩,hg⟩
 ·rw[qh]at hi
  unfold Wh.setCell;rw[rowAt_set hb];by_cases he:i=b
  ·subst he;rw[aB rfl,hv];exact o1
  ·rw[ay he];have:=key i (by rw[h.rlen];omega) he
   rw[Vm V (by rw[h.rlen];exact hi)]at this
   exact(h.row i hi).kept hg' this
 ·have:=key (V.rows.length+0) (by omega) (by omega)
  rw[jfc]at this
  exact this
 ·have:=key (V.rows.length+1) (by omega) (by omega)
  rw[jeW]at this
  exact this
 ·have:=key (V.rows.length+2) (by omega) (by omega)
  rw[UY]at this
  exact this
theorem jg8(h:dK w aO V s){g:Nat}(hgl:g<s.gY.length){gr n c:Nat}(hv:V.gY=.slice (some ⟨gr,0,none⟩) n c)(q:Int):
  dK (w.setCell ⟨gr,g,none⟩ (.int .i64 q)) aO V {s with gY:=s.gY.set g q}/\w.grownBy (w.setCell ⟨gr,g,none⟩ (.int .i64 q)) (some gr):=by
 have hl:=h.gY;have hl':=hl;rw[hv]at hl'
 obtain⟨o1,hg⟩:=hl'.store (i:=g) (λ_=>rfl) hgl (show 0<1 by omega) (y:=q) (u:=.int .i64 q) rfl
 rw[nC,jB]at o1 hg
 have hob:V.gY.ownBlock=some gr:=by rw[hv];rfl
 have hg':w.grownBy (w.setCell ⟨gr,g,none⟩ (.int .i64 q)) V.gY.ownBlock:=by rw[hob];exact hg
 have key:∀i,i<V.rows.length+3->i≠V.rows.length+0->((V.rows++[V.gY,V.O,V.bg]).getD i mJ).ownBlock=none\/((V.rows++[V.gY,V.O,V.bg]).getD i mJ).ownBlock≠V.gY.ownBlock:=λi hi hne=>by
  have:=Lr h.apart (i:=i) (j:=V.rows.length+0) (by rw[lenV];exact hi) (by rw[lenV];omega) hne
  rw[jfc]at this
  exact this
 refine⟨⟨h.on.kept hg' (h.on.apart hl (by decide)),h.rlen,λi hi=>?_,h.ak.kept hg' (h.ak.apart hl (by decide)),h.llen,λo ho=>(h.aG o ho).kept hg' ((h.aG o ho).apart hl (by decide)),h.aA.kept hg' (h.aA.apart hl (by decide)),h.aF.kept hg' (h.aF.apart hl (by decide)),?_,?_,?_,h.apart,h.yS⟩,hg⟩
 ·have hi':i<s.on.length:=hi;have hr:=h.rlen;have:=key i (by omega) (by omega)
  rw[Vm V (by omega)]at this
  exact(h.row i hi).kept hg' this
 ·rw[hv];exact o1
 ·have:=key (V.rows.length+1) (by omega) (by omega)
  rw[jeW]at this
  exact h.O.kept hg' this
 ·have:=key (V.rows.length+2) (by omega) (by omega)
  rw[UY]at this
  exact h.bg.kept hg' this
theorem jmF(h:dK w aO V s){g:Nat}(hgl:g<s.O.length){gr n c:Nat}(hv:V.O=.slice (some ⟨gr,0,none⟩) n c)(q:Int):
  dK (w.setCell ⟨gr,g,none⟩ (.int .i64 q)) aO V {s with O:=s.O.set g q}/\w.grownBy (w.setCell ⟨gr,g,none⟩ (.int .i64 q)) (some gr):=by
 have hl:=h.O;have hl':=hl;rw[hv]at hl'
 obtain⟨o1,hg⟩:=hl'.store (i:=g) (λ_=>rfl) hgl (show 0<1 by omega) (y:=q) (u:=.int .i64 q) rfl
 rw[nC,jB]at o1 hg
 have hob:V.O.ownBlock=some gr:=by rw[hv];rfl
 have hg':w.grownBy (w.setCell ⟨gr,g,none⟩ (.int .i64 q)) V.O.ownBlock:=by rw[hob];exact hg
 have key:∀i,i<V.rows.length+3->i≠V.rows.length+1->((V.rows++[V.gY,V.O,V.bg]).getD i mJ).ownBlock=none\/((V.rows++[V.gY,V.O,V.bg]).getD i mJ).ownBlock≠V.O.ownBlock:=λi hi hne=>by
  have:=Lr h.apart (i:=i) (j:=V.rows.length+1) (by rw[lenV];exact hi) (by rw[lenV];omega) hne
  rw[jeW]at this
  exact this
 refine⟨⟨h.on.kept hg' (h.on.apart hl (by decide)),h.rlen,λi hi=>?_,h.ak.kept hg' (h.ak.apart hl (by decide)),h.llen,λo ho=>(h.aG o ho).kept hg' ((h.aG o ho).apart hl (by decide)),h.aA.kept hg' (h.aA.apart hl (by decide)),h.aF.kept hg' (h.aF.apart hl (by decide)),?_,?_,?_,h.apart,h.yS⟩,hg⟩
 ·have hi':i<s.on.length:=hi;have hr:=h.rlen;have:=key i (by omega) (by omega)
  rw[Vm V (by omega)]at this
  exact(h.row i hi).kept hg' this
 ·have:=key (V.rows.length+0) (by omega) (by omega)
  rw[jfc]at this
  exact h.gY.kept hg' this
 ·rw[hv];exact o1
 ·have:=key (V.rows.length+2) (by omega) (by omega)
  rw[UY]at this
  exact h.bg.kept hg' this
theorem jha(h:dK w aO V s){g:Nat}(hgl:g<s.bg.length){gr n c:Nat}(hv:V.bg=.slice (some ⟨gr,0,none⟩) n c)(q:Int):
  dK (w.setCell ⟨gr,g,none⟩ (.int .i64 q)) aO V {s with bg:=s.bg.set g q}/\w.grownBy (w.setCell ⟨gr,g,none⟩ (.int .i64 q)) (some gr):=by
 have hl:=h.bg;have hl':=hl;rw[hv]at hl'
 obtain⟨o1,hg⟩:=hl'.store (i:=g) (λ_=>rfl) hgl (show 0<1 by omega) (y:=q) (u:=.int .i64 q) rfl
 rw[nC,jB]at o1 hg
 have hob:V.bg.ownBlock=some gr:=by rw[hv];rfl
 have hg':w.grownBy (w.setCell ⟨gr,g,none⟩ (.int .i64 q)) V.bg.ownBlock:=by rw[hob];exact hg
 have key:∀i,i<V.rows.length+3->i≠V.rows.length+2->((V.rows++[V.gY,V.O,V.bg]).getD i mJ).ownBlock=none\/((V.rows++[V.gY,V.O,V.bg]).getD i mJ).ownBlock≠V.bg.ownBlock:=λi hi hne=>by
  have:=Lr h.apart (i:=i) (j:=V.rows.length+2) (by rw[lenV];exact hi) (by rw[lenV];omega) hne
  rw[UY]at this
  exact this
 refine⟨⟨h.on.kept hg' (h.on.apart hl (by decide)),h.rlen,λi hi=>?_,h.ak.kept hg' (h.ak.apart hl (by decide)),h.llen,λo ho=>(h.aG o ho).kept hg' ((h.aG o ho).apart hl (by decide)),h.aA.kept hg' (h.aA.apart hl (by decide)),h.aF.kept hg' (h.aF.apart hl (by decide)),?_,?_,?_,h.apart,h.yS⟩,hg⟩
 ·have hi':i<s.on.length:=hi;have hr:=h.rlen;have:=key i (by omega) (by omega)
  rw[Vm V (by omega)]at this
  exact(h.row i hi).kept hg' this
 ·have:=key (V.rows.length+0) (by omega) (by omega)
  rw[jfc]at this
  exact h.gY.kept hg' this
 ·have:=key (V.rows.length+1) (by omega) (by omega)
  rw[jeW]at this
  exact h.O.kept hg' this
 ·rw[hv];exact o1
end dK
end Wh
