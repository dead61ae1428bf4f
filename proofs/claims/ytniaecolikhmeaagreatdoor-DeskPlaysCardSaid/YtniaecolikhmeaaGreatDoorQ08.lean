/- Texts of the claim, joined. -/
import Derived.Test.YtniaecolikhmeaaGreatDoorChecked
import Derived.Test.YtniaecolikhmeaaGreatDoorQ07
set_option maxHeartbeats 20000000
set_option maxRecDepth 100000
set_option linter.all false
namespace Wh
open Go Go.RowKit Go.Shelf Go.Proofs Tryz
section
attribute [local go_sem] aV
theorem oz(n lo hi:Int)(w:World):
  Calls prog 43 #[n,lo,hi] w λe w'=>e=.returned (.bool (dM n lo hi))/\w=w':=by
 go_enter func43,ntmps43
 by_cases h1:lo<=n
 ·by_cases h2:n<=hi
  ·go_wp2
   go_ret
   exact⟨by simp[dM,h1,h2],rfl⟩
  ·go_wp2
   go_ret
   exact⟨by simp[dM];omega,rfl⟩
 ·go_wp2
  go_ret
  exact⟨by simp[dM];omega,rfl⟩
theorem WL(w:World)(v:Value)(p:dG)(hp:kK w w v p):
  Calls prog 16 #[v] w λe w'=>e=.returned ((fU p))/\Below w w w':=by
 obtain⟨_,_,rfl,⟨Ab,cb,rfl,hlb,hb⟩,⟨As,cs,rfl,hls,hs⟩⟩:=hp;have hb0:Below w w (w.alloc (kD p Ab cb As cs)):=(aj _ _).alloc (ay _) _;go_enter func16,ntmps16
 cases h1:dM p.dP.length 1 6
 ·go_wp2_with (go_at_call 43;refine(oz _ _ _ _).mono ?_;rintro e w' ⟨rfl,rfl⟩)
  go_ret
  exact⟨iK (Iq (.inl h1)).symm,hb0⟩
 cases h2:dM p.aW.length 1 3
 ·go_wp2_with (go_at_call 43;refine(oz _ _ _ _).mono ?_;rintro e w' ⟨rfl,rfl⟩)
  go_ret
  exact⟨iK (Iq (.inr h2)).symm,hb0⟩
 go_wp2_with (go_at_call 43;refine(oz _ _ _ _).mono ?_;rintro e w' ⟨rfl,rfl⟩)
 go_loopw[3] (λi wr=>∃k:Nat,k<=p.dP.length/\i=.int .i64 k/\(∀j,j<k->Dw (mG p.dP j)=true)/\Below w.heap.size w wr/\w.heap.size<wr.heap.size/\wr.cell? ⟨w.heap.size,0,none⟩=some (.slice Ab p.dP.length cb)/\wr.cell? ⟨w.heap.size,1,none⟩=some (.slice As p.aW.length cs)) (λi _=>p.dP.length - (RowKit.intOf i).toNat)
 case atStart=>exact⟨0,aN _,rfl,λj hj=>by omega,hb0,by simp,by simp,by simp⟩
 case round=>
  obtain⟨k,hk,rfl,kQ,hbw,hsz,hc0,hc1⟩:=hrel;by_cases hlt:k<p.dP.length
  ·obtain⟨hA,MW,b0,b1,b2,b3⟩:=(hb.up hbw hbw.size).bin hlt;rcases Vf (mG p.dP k)with⟨g1,hno⟩|⟨g1,g2,hno⟩|⟨g1,g2,g3,hno⟩|⟨g1,g2,g3,hyes⟩
   ·go_wp2_with (go_at_call 43;refine(oz _ _ _ _).mono ?_;rintro e w' ⟨rfl,rfl⟩)
    go_ret
    exact⟨iK (LX h1 h2 hlt hno).symm,hbw.alloc hbw.size _⟩
   ·go_wp2_with (go_at_call 43;refine(oz _ _ _ _).mono ?_;rintro e w' ⟨rfl,rfl⟩)
    go_ret
    exact⟨iK (LX h1 h2 hlt hno).symm,hbw.alloc hbw.size _⟩
   ·go_wp2_with (go_at_call 43;refine(oz _ _ _ _).mono ?_;rintro e w' ⟨rfl,rfl⟩)
    go_ret
    exact⟨iK (LX h1 h2 hlt hno).symm,hbw.alloc hbw.size _⟩
   ·go_wp2_with (go_at_call 43;refine(oz _ _ _ _).mono ?_;rintro e w' ⟨rfl,rfl⟩)
    go_roundw
    case rel=>
     refine⟨k+1,by omega,by go_num,λj hj=>?_,hbw.alloc hbw.size _,by simp;omega,?_,?_⟩
     ·rcases bf.1 hj with h|rfl
      ·exact kQ j h
      ·exact hyes
     ·rw[tX _ _ _ hsz];exact hc0
     ·rw[tX _ _ _ hsz];exact hc1
    case measure=>simp[dY];omega
  ·obtain rfl:k=p.dP.length:=by omega
   have hsn:=hs.up hbw hbw.size;go_wp2_with (go_at_call 43;refine(oz _ _ _ _).mono ?_;rintro e w' ⟨rfl,rfl⟩)
   go_loop[5] (λi=>∃k:Nat,k<=p.aW.length/\i=k/\(∀j,j<k->Fz (aZ p.aW j)=true)) (λi=>p.aW.length - (RowKit.intOf i).toNat)
   case atStart=>exact⟨0,aN _,rfl,λj hj=>by omega⟩
   case round=>
    obtain⟨k,hk,rfl,jc8⟩:=hrel;by_cases hlt:k<p.aW.length
    ·obtain⟨hA,MW,b0⟩:=hsn.int hlt;cases g1:dM (aZ p.aW k) 1 9
     ·go_wp2_with (go_at_call 43;refine(oz _ _ _ _).mono ?_;rintro e w' ⟨rfl,rfl⟩)
      go_ret
      exact⟨iK (KC h1 h2 hlt g1).symm,hbw⟩
     ·go_wp2_with (go_at_call 43;refine(oz _ _ _ _).mono ?_;rintro e w' ⟨rfl,rfl⟩)
      go_round
      case rel=>
       refine⟨k+1,by omega,by go_num,λj hj=>?_⟩
       rcases bf.1 hj with h|rfl
       ·exact jc8 j h
       ·exact g1
      case measure=>simp[dY];omega
    ·obtain rfl:k=p.aW.length:=by omega
     go_wp2_with (go_at_call 43;refine(oz _ _ _ _).mono ?_;rintro e w' ⟨rfl,rfl⟩)
     go_ret
     exact⟨iK (TA h1 h2 kQ jc8).symm,hbw⟩
end
section
attribute [local go_sem] aV
theorem jh3(w:World)(v:Value)(l:List Int)(hv:Sl iW w w v l)(hn:0<l.length):
  Calls prog 23 #[v] w λe w'=>e=.returned ((D8 l))/\w=w':=by
 obtain⟨A,c,rfl,hl,hA⟩:=hv;obtain⟨hok,MW,b0⟩:=hA.int hn;have hn':1<=l.length:=hn;simp only[fZ]at b0
 go_enter func23,ntmps23
 go_wp2_with fail;go_loop[3,4] (λm i=>∃k:Nat,k+1<=l.length/\i=.int .i64 (k+1:Nat)/\m=.int .i64 (ZB (aZ l) k)) (λ_ i=>l.length - (RowKit.intOf i).toNat)
 case atStart=>exact⟨0,hn',rfl,rfl⟩
 case round=>
  obtain⟨k,hk,rfl,rfl⟩:=hrel;by_cases hlt:k+1<l.length
  ·obtain⟨_,_,b1⟩:=hA.int hlt;go_wp2_with fail;go_round
   case rel=>exact⟨k+1,by omega,by go_num,by rw[ZB];first|done|(congr 1;split<;>omega)⟩
   case measure=>simp[dY];omega
  ·obtain rfl:k=l.length - 1:=by omega
   go_wp2_with fail;go_ret
   exact⟨rfl,rfl⟩
theorem jh4(w:World)(v:Value)(l:List Int)(hv:Sl iW w w v l)(hn:0<l.length):
  Calls prog 24 #[v] w λe w'=>e=.returned ((yN l))/\w=w':=by
 obtain⟨A,c,rfl,hl,hA⟩:=hv;obtain⟨hok,MW,b0⟩:=hA.int hn;have hn':1<=l.length:=hn;simp only[fZ]at b0
 go_enter func24,ntmps24
 go_wp2_with fail;go_loop[3,4] (λm i=>∃k:Nat,k+1<=l.length/\i=.int .i64 (k+1:Nat)/\m=.int .i64 (ZC (aZ l) k)) (λ_ i=>l.length - (RowKit.intOf i).toNat)
 case atStart=>exact⟨0,hn',rfl,rfl⟩
 case round=>
  obtain⟨k,hk,rfl,rfl⟩:=hrel;by_cases hlt:k+1<l.length
  ·obtain⟨_,_,b1⟩:=hA.int hlt;go_wp2_with fail;go_round
   case rel=>exact⟨k+1,by omega,by go_num,by rw[ZC];first|done|(congr 1;split<;>omega)⟩
   case measure=>simp[dY];omega
  ·obtain rfl:k=l.length - 1:=by omega
   go_wp2_with fail;go_ret
   exact⟨rfl,rfl⟩
end
section
attribute [local go_sem] aV
theorem jaX(w:World)(v:Value)(l:List Bin)(g:FuncId)(lb:Array Value)(pred:Bin->Bool)(eg:Enters prog g)(hv:Sl Qv w w v l)
  (hf:∀k,k<l.length->∀W,Below w w W->Calls prog g (#[jk1 (mG l k)]++lb) W λe W'=>e=.returned (.bool (pred (mG l k)))/\Below W.heap.size W W'):
  Calls prog 52 #[v,.func (.func g) #[] lb] w λe w'=>e=.returned ((idxOf pred l))/\Below w w w':=by
 obtain⟨A,c,rfl,hl,hA⟩:=hv;have eg':∀args w,Sem.run prog (callFunc g args) w=.ok (.enter g args) w:=eg;go_enter func52,ntmps52
 go_wp2_with fail;go_loopw[5,8] (λ_ i wr=>∃k:Nat,k<=l.length/\i=.int .i64 k/\(∀j,j<k->pred (mG l j)=false)/\Below w.heap.size w wr) (λ_ i _=>l.length - (RowKit.intOf i).toNat)
 case atStart=>exact⟨0,aN _,rfl,λj hj=>by omega,aj _ _⟩
 case round=>
  obtain⟨k,hk,rfl,kQ,hbw⟩:=hrel;have hal:∀j (hj:j<k),pred (l[j]'(by omega))=false:=λj hj=>by have:=kQ j hj;rwa [KE (by omega)]at this
  by_cases hlt:k<l.length
  ·obtain⟨hok,MW,b0,b1,b2,b3⟩:=(hA.up hbw hbw.size).bin hlt;go_wp2_with fail;refine(hf k hlt _ hbw).mono ?_
   rintro e W1 ⟨rfl,hb1⟩;have uo:=fD hbw hb1;cases hp:pred (mG l k)
   ·go_wp2_with fail;go_roundw
    case rel=>
     refine⟨k+1,by omega,by go_num,λj hj=>?_,uo⟩
     rcases bf.1 hj with h|rfl
     ·exact kQ j h
     ·exact hp
    case measure=>simp[dY];omega
   ·go_wp2_with fail;go_ret
    exact⟨iK (MB hlt (by rw[KE hlt]at hp;exact hp) hal),uo⟩
  ·obtain rfl:k=l.length:=by omega
   go_wp2_with fail;go_ret
   exact⟨iK (H6 λj hj=>by have:=kQ j hj;rwa [KE hj]at this),hbw⟩
theorem Vz(w:World)(v:Value)(l:List Bin)(g:FuncId)(lb:Array Value)(pred:Bin->Bool)(eg:Enters prog g)(hv:Sl Qv w w v l)
  (hf:∀k,k<l.length->∀W,Below w w W->Calls prog g (#[jk1 (mG l k)]++lb) W λe W'=>e=.returned (.bool (pred (mG l k)))/\Below W.heap.size W W'):
  Calls prog 21 #[v,.func (.func g) #[] lb] w λe w'=>e=.returned (.bool (l.any pred))/\Below w w w':=by
 have H:=ah (jaX w v l g lb pred eg hv hf);clear hf;go_enter func21,ntmps21
 go_wp2_with fail;refine H.O.mono ?_
 rintro e W1 ⟨rfl,hb1⟩;go_wp2_with fail;go_ret
 exact⟨gK (JF pred l),hb1⟩
theorem YM(w:World)(v:Value)(l:List Line)(g:FuncId)(lb:Array Value)(pred:Line->Bool)(eg:Enters prog g)(hv:Sl mX w w v l)
  (hf:∀k,k<l.length->∀W,Below w w W->Calls prog g (#[JQ (fG l k)]++lb) W λe W'=>e=.returned (.bool (pred (fG l k)))/\Below W.heap.size W W'):
  Calls prog 146 #[v,.func (.func g) #[] lb] w λe w'=>e=.returned ((idxOf pred l))/\Below w w w':=by
 obtain⟨A,c,rfl,hl,hA⟩:=hv;have eg':∀args w,Sem.run prog (callFunc g args) w=.ok (.enter g args) w:=eg;go_enter func146,ntmps146
 go_wp2_with fail;go_loopw[5,8] (λ_ i wr=>∃k:Nat,k<=l.length/\i=.int .i64 k/\(∀j,j<k->pred (fG l j)=false)/\Below w.heap.size w wr) (λ_ i _=>l.length - (RowKit.intOf i).toNat)
 case atStart=>exact⟨0,aN _,rfl,λj hj=>by omega,aj _ _⟩
 case round=>
  obtain⟨k,hk,rfl,kQ,hbw⟩:=hrel;have hal:∀j (hj:j<k),pred (l[j]'(by omega))=false:=λj hj=>by have:=kQ j hj;rwa [qw (by omega)]at this
  by_cases hlt:k<l.length
  ·obtain⟨hok,MW,b0,b1,b2,b3⟩:=(hA.up hbw hbw.size).aK hlt;go_wp2_with fail;refine(hf k hlt _ hbw).mono ?_
   rintro e W1 ⟨rfl,hb1⟩;have uo:=fD hbw hb1;cases hp:pred (fG l k)
   ·go_wp2_with fail;go_roundw
    case rel=>
     refine⟨k+1,by omega,by go_num,λj hj=>?_,uo⟩
     rcases bf.1 hj with h|rfl
     ·exact kQ j h
     ·exact hp
    case measure=>simp[dY];omega
   ·go_wp2_with fail;go_ret
    exact⟨iK (MB hlt (by rw[qw hlt]at hp;exact hp) hal),uo⟩
  ·obtain rfl:k=l.length:=by omega
   go_wp2_with fail;go_ret
   exact⟨iK (H6 λj hj=>by have:=kQ j hj;rwa [qw hj]at this),hbw⟩
theorem yB(w:World)(v:Value)(l:List Line)(g:FuncId)(lb:Array Value)(pred:Line->Bool)(eg:Enters prog g)(hv:Sl mX w w v l)
  (hf:∀k,k<l.length->∀W,Below w w W->Calls prog g (#[JQ (fG l k)]++lb) W λe W'=>e=.returned (.bool (pred (fG l k)))/\Below W.heap.size W W'):
  Calls prog 95 #[v,.func (.func g) #[] lb] w λe w'=>e=.returned (.bool (l.any pred))/\Below w w w':=by
 have H:=ah (YM w v l g lb pred eg hv hf);clear hf;go_enter func95,ntmps95
 go_wp2_with fail;refine H.O.mono ?_
 rintro e W1 ⟨rfl,hb1⟩;go_wp2_with fail;go_ret
 exact⟨gK (JF pred l),hb1⟩
theorem QF(w:World)(v:Value)(l:List eX)(g:FuncId)(lb:Array Value)(pred:eX->Bool)(eg:Enters prog g)(hv:Sl iD w w v l)
  (hf:∀k,k<l.length->∀W,Below w w W->Calls prog g (#[uK (hold l k)]++lb) W λe W'=>e=.returned (.bool (pred (hold l k)))/\Below W.heap.size W W'):
  Calls prog 149 #[v,.func (.func g) #[] lb] w λe w'=>e=.returned ((idxOf pred l))/\Below w w w':=by
 obtain⟨A,c,rfl,hl,hA⟩:=hv;have eg':∀args w,Sem.run prog (callFunc g args) w=.ok (.enter g args) w:=eg;go_enter func149,ntmps149
 go_wp2_with fail;go_loopw[5,8] (λ_ i wr=>∃k:Nat,k<=l.length/\i=.int .i64 k/\(∀j,j<k->pred (hold l j)=false)/\Below w.heap.size w wr) (λ_ i _=>l.length - (RowKit.intOf i).toNat)
 case atStart=>exact⟨0,aN _,rfl,λj hj=>by omega,aj _ _⟩
 case round=>
  obtain⟨k,hk,rfl,kQ,hbw⟩:=hrel;have hal:∀j (hj:j<k),pred (l[j]'(by omega))=false:=λj hj=>by have:=kQ j hj;rwa [iZ (by omega)]at this
  by_cases hlt:k<l.length
  ·obtain⟨hok,MW,b0,b1,b2,b3⟩:=(hA.up hbw hbw.size).hold hlt;go_wp2_with fail;refine(hf k hlt _ hbw).mono ?_
   rintro e W1 ⟨rfl,hb1⟩;have uo:=fD hbw hb1;cases hp:pred (hold l k)
   ·go_wp2_with fail;go_roundw
    case rel=>
     refine⟨k+1,by omega,by go_num,λj hj=>?_,uo⟩
     rcases bf.1 hj with h|rfl
     ·exact kQ j h
     ·exact hp
    case measure=>simp[dY];omega
   ·go_wp2_with fail;go_ret
    exact⟨iK (MB hlt (by rw[iZ hlt]at hp;exact hp) hal),uo⟩
  ·obtain rfl:k=l.length:=by omega
   go_wp2_with fail;go_ret
   exact⟨iK (H6 λj hj=>by have:=kQ j hj;rwa [iZ hj]at this),hbw⟩
theorem Uu(w:World)(v:Value)(l:List eX)(g:FuncId)(lb:Array Value)(pred:eX->Bool)(eg:Enters prog g)(hv:Sl iD w w v l)
  (hf:∀k,k<l.length->∀W,Below w w W->Calls prog g (#[uK (hold l k)]++lb) W λe W'=>e=.returned (.bool (pred (hold l k)))/\Below W.heap.size W W'):
  Calls prog 187 #[v,.func (.func g) #[] lb] w λe w'=>e=.returned (.bool (l.any pred))/\Below w w w':=by
 have H:=ah (QF w v l g lb pred eg hv hf);clear hf;go_enter func187,ntmps187
 go_wp2_with fail;refine H.O.mono ?_
 rintro e W1 ⟨rfl,hb1⟩;go_wp2_with fail;go_ret
 exact⟨gK (JF pred l),hb1⟩
theorem QE(w:World)(v:Value)(l:List Move)(g:FuncId)(lb:Array Value)(pred:Move->Bool)(eg:Enters prog g)(hv:Sl oC w w v l)
  (hf:∀k,k<l.length->∀W,Below w w W->Calls prog g (#[EW (bZ l k)]++lb) W λe W'=>e=.returned (.bool (pred (bZ l k)))/\Below W.heap.size W W'):
  Calls prog 200 #[v,.func (.func g) #[] lb] w λe w'=>e=.returned ((idxOf pred l))/\Below w w w':=by
 obtain⟨A,c,rfl,hl,hA⟩:=hv;have eg':∀args w,Sem.run prog (callFunc g args) w=.ok (.enter g args) w:=eg;go_enter func200,ntmps200
 go_wp2_with fail;go_loopw[5,8] (λ_ i wr=>∃k:Nat,k<=l.length/\i=.int .i64 k/\(∀j,j<k->pred (bZ l j)=false)/\Below w.heap.size w wr) (λ_ i _=>l.length - (RowKit.intOf i).toNat)
 case atStart=>exact⟨0,aN _,rfl,λj hj=>by omega,aj _ _⟩
 case round=>
  obtain⟨k,hk,rfl,kQ,hbw⟩:=hrel;have hal:∀j (hj:j<k),pred (l[j]'(by omega))=false:=λj hj=>by have:=kQ j hj;rwa [pJ (by omega)]at this
  by_cases hlt:k<l.length
  ·obtain⟨hok,MW,b0,b1,b2,b3⟩:=(hA.up hbw hbw.size).move hlt;go_wp2_with fail;refine(hf k hlt _ hbw).mono ?_
   rintro e W1 ⟨rfl,hb1⟩;have uo:=fD hbw hb1;cases hp:pred (bZ l k)
   ·go_wp2_with fail;go_roundw
    case rel=>
     refine⟨k+1,by omega,by go_num,λj hj=>?_,uo⟩
     rcases bf.1 hj with h|rfl
     ·exact kQ j h
     ·exact hp
    case measure=>simp[dY];omega
   ·go_wp2_with fail;go_ret
    exact⟨iK (MB hlt (by rw[pJ hlt]at hp;exact hp) hal),uo⟩
  ·obtain rfl:k=l.length:=by omega
   go_wp2_with fail;go_ret
   exact⟨iK (H6 λj hj=>by have:=kQ j hj;rwa [pJ hj]at this),hbw⟩
theorem Ut(w:World)(v:Value)(l:List Move)(g:FuncId)(lb:Array Value)(pred:Move->Bool)(eg:Enters prog g)(hv:Sl oC w w v l)
  (hf:∀k,k<l.length->∀W,Below w w W->Calls prog g (#[EW (bZ l k)]++lb) W λe W'=>e=.returned (.bool (pred (bZ l k)))/\Below W.heap.size W W'):
  Calls prog 189 #[v,.func (.func g) #[] lb] w λe w'=>e=.returned (.bool (l.any pred))/\Below w w w':=by
 have H:=ah (QE w v l g lb pred eg hv hf);clear hf;go_enter func189,ntmps189
 go_wp2_with fail;refine H.O.mono ?_
 rintro e W1 ⟨rfl,hb1⟩;go_wp2_with fail;go_ret
 exact⟨gK (JF pred l),hb1⟩
theorem jaW(w:World)(v:Value)(l:List (List Int))(g:FuncId)(lb:Array Value)(pred:(List Int)->Bool)(eg:Enters prog g)(hv:KJ iW w w v l)
  (hf:∀k,k<l.length->∀W,Below w w W->∀u,Sl iW W W.heap.size u (fO l k)->Calls prog g (#[u]++lb) W λe W'=>e=.returned (.bool (pred (fO l k)))/\Below W.heap.size W W'):
  Calls prog 212 #[v,.func (.func g) #[] lb] w λe w'=>e=.returned ((idxOf pred l))/\Below w w w':=by
 obtain⟨A,c,vs,rfl,hl,hvl,hA,Jk⟩:=hv;have eg':∀args w,Sem.run prog (callFunc g args) w=.ok (.enter g args) w:=eg;go_enter func212,ntmps212
 go_wp2_with fail;go_loopw[5,8] (λ_ i wr=>∃k:Nat,k<=l.length/\i=.int .i64 k/\(∀j,j<k->pred (fO l j)=false)/\Below w.heap.size w wr) (λ_ i _=>l.length - (RowKit.intOf i).toNat)
 case atStart=>exact⟨0,aN _,rfl,λj hj=>by omega,aj _ _⟩
 case round=>
  obtain⟨k,hk,rfl,kQ,hbw⟩:=hrel;have hal:∀j (hj:j<k),pred (l[j]'(by omega))=false:=λj hj=>by have:=kQ j hj;rwa [AU (by omega)]at this
  by_cases hlt:k<l.length
  ·obtain⟨A',c',hok,MW,hcu,hsu⟩:=(show KJ iW wr wr.heap.size _ l from KJ.up ⟨A,c,vs,rfl,hl,hvl,hA,Jk⟩ hbw hbw.size).row hlt
   go_wp2_with fail;refine(hf k hlt _ hbw _ hsu).mono ?_
   rintro e W1 ⟨rfl,hb1⟩;have uo:=fD hbw hb1;cases hp:pred (fO l k)
   ·go_wp2_with fail;go_roundw
    case rel=>
     refine⟨k+1,by omega,by go_num,λj hj=>?_,uo⟩
     rcases bf.1 hj with h|rfl
     ·exact kQ j h
     ·exact hp
    case measure=>simp[dY];omega
   ·go_wp2_with fail;go_ret
    exact⟨iK (MB hlt (by rw[AU hlt]at hp;exact hp) hal),uo⟩
  ·obtain rfl:k=l.length:=by omega
   go_wp2_with fail;go_ret
   exact⟨iK (H6 λj hj=>by have:=kQ j hj;rwa [AU hj]at this),hbw⟩
theorem Vy(w:World)(v:Value)(l:List (List Int))(g:FuncId)(lb:Array Value)(pred:(List Int)->Bool)(eg:Enters prog g)(hv:KJ iW w w v l)
  (hf:∀k,k<l.length->∀W,Below w w W->∀u,Sl iW W W.heap.size u (fO l k)->Calls prog g (#[u]++lb) W λe W'=>e=.returned (.bool (pred (fO l k)))/\Below W.heap.size W W'):
  Calls prog 181 #[v,.func (.func g) #[] lb] w λe w'=>e=.returned (.bool (l.any pred))/\Below w w w':=by
 have H:=ah (jaW w v l g lb pred eg hv hf);clear hf;go_enter func181,ntmps181
 go_wp2_with fail;refine H.O.mono ?_
 rintro e W1 ⟨rfl,hb1⟩;go_wp2_with fail;go_ret
 exact⟨gK (JF pred l),hb1⟩
theorem Xp(w:World)(v:Value)(l:List Order)(g:FuncId)(lb:Array Value)(pred:Order->Bool)(eg:Enters prog g)(hv:oW w w v l)
  (hf:∀k,k<l.length->∀W,Below w w W->∀u,Sl mX W W.heap.size u (bK l k).aH->Calls prog g (#[.agg #[.int .i64 (bK l k).eH,u]]++lb) W λe W'=>e=.returned (.bool (pred (bK l k)))/\Below W.heap.size W W'):
  Calls prog 182 #[v,.func (.func g) #[] lb] w λe w'=>e=.returned ((idxOf pred l))/\Below w w w':=by
 obtain⟨A,c,vs,rfl,hl,hvl,hA,Jk⟩:=hv;have eg':∀args w,Sem.run prog (callFunc g args) w=.ok (.enter g args) w:=eg;go_enter func182,ntmps182
 go_wp2_with fail;go_loopw[5,8] (λ_ i wr=>∃k:Nat,k<=l.length/\i=.int .i64 k/\(∀j,j<k->pred (bK l j)=false)/\Below w.heap.size w wr) (λ_ i _=>l.length - (RowKit.intOf i).toNat)
 case atStart=>exact⟨0,aN _,rfl,λj hj=>by omega,aj _ _⟩
 case round=>
  obtain⟨k,hk,rfl,kQ,hbw⟩:=hrel;have hal:∀j (hj:j<k),pred (l[j]'(by omega))=false:=λj hj=>by have:=kQ j hj;rwa [uO (by omega)]at this
  by_cases hlt:k<l.length
  ·obtain⟨A',c',hok,MW,hc0,hcu,hsu⟩:=(show oW wr wr.heap.size _ l from oW.up ⟨A,c,vs,rfl,hl,hvl,hA,Jk⟩ hbw hbw.size).aC hlt
   go_wp2_with fail;refine(hf k hlt _ hbw _ hsu).mono ?_
   rintro e W1 ⟨rfl,hb1⟩;have uo:=fD hbw hb1;cases hp:pred (bK l k)
   ·go_wp2_with fail;go_roundw
    case rel=>
     refine⟨k+1,by omega,by go_num,λj hj=>?_,uo⟩
     rcases bf.1 hj with h|rfl
     ·exact kQ j h
     ·exact hp
    case measure=>simp[dY];omega
   ·go_wp2_with fail;go_ret
    exact⟨iK (MB hlt (by rw[uO hlt]at hp;exact hp) hal),uo⟩
  ·obtain rfl:k=l.length:=by omega
   go_wp2_with fail;go_ret
   exact⟨iK (H6 λj hj=>by have:=kQ j hj;rwa [uO hj]at this),hbw⟩
theorem Tv(w:World)(v:Value)(l:List Order)(g:FuncId)(lb:Array Value)(pred:Order->Bool)(eg:Enters prog g)(hv:oW w w v l)
  (hf:∀k,k<l.length->∀W,Below w w W->∀u,Sl mX W W.heap.size u (bK l k).aH->Calls prog g (#[.agg #[.int .i64 (bK l k).eH,u]]++lb) W λe W'=>e=.returned (.bool (pred (bK l k)))/\Below W.heap.size W W'):
  Calls prog 138 #[v,.func (.func g) #[] lb] w λe w'=>e=.returned (.bool (l.any pred))/\Below w w w':=by
 have H:=ah (Xp w v l g lb pred eg hv hf);clear hf;go_enter func138,ntmps138
 go_wp2_with fail;refine H.O.mono ?_
 rintro e W1 ⟨rfl,hb1⟩;go_wp2_with fail;go_ret
 exact⟨gK (JF pred l),hb1⟩
end
section
attribute [local go_sem] aV
theorem zS:Elem prog 3 (zI) 1 8:=Ls (by kernel_rfl)
theorem jnR(w:World)(v:Value)(p:dG)(hp:kK w w v p)(hn:p.dP.length<=100):
  Calls prog 169 #[v] w (Gives (λu w'=>Own iW 1 3 w' w u (yI (way p))) w):=by
 obtain⟨_,_,rfl,⟨Ab,cb,rfl,hlb,hb⟩,⟨As,cs,rfl,hls,hs⟩⟩:=hp;have hb0:Below w w (w.alloc (kD p Ab cb As cs)):=(aj _ _).alloc (ay _) _;go_enter func169,ntmps169
 go_wp2_with fail;go_loopw[3,4] (λu i wr=>∃k:Nat,k<=p.dP.length/\i=.int .i64 k/\Own iW 1 3 wr (w.heap.size+1) u (yI (vT p true k))/\Below w.heap.size w wr/\w.heap.size<wr.heap.size/\wr.cell? ⟨w.heap.size,0,none⟩=some (.slice Ab p.dP.length cb)) (λ_ i _=>p.dP.length - (RowKit.intOf i).toNat)
 case atStart=>exact⟨0,aN _,rfl,Own.nil,hb0,by simp,by simp⟩
 case round=>
  obtain⟨k,hk,rfl,mQ,hbw,hsz,hc0⟩:=hrel;by_cases hlt:k<p.dP.length
  ·obtain⟨hok,MW,b0,b1,b2,b3⟩:=(hb.up hbw hbw.size).bin hlt;have hmax:k<=9223372036854775806:=by omega
   cases hf:(mG p.dP k).front
   ·go_wp2_with fail;go_roundw
    case rel=>exact⟨k+1,by omega,by go_num,by rw[Hw (by rw[hf];decide)];exact mQ,hbw,hsz,hc0⟩
    case measure=>simp[dY];omega
   ·have lZ:(yI (vT p true k)).length<=1000000:=by rw[D5];have:=Ea p true k;omega
    go_wp2_with (at_builtin;refine bD ?_)
    unfold Hid;refine jV _ rfl (.tmp 19) (.tmp 21) 23 3 rfl (w.heap.size+1) _ 1 8 underlying23 zS rfl (by decide) (by decide) u3 (yI (vT p true k)) (k:Int) rfl (mQ.alloc _) wr 1 rfl rfl (cell_one_new _ _ _) (Dv _) lZ (by simp;omega) ?_
    intro v1 w1 yK hg1 jc6 Gt;have uo:Below w w w1:=(hbw.alloc hbw.size _).trans (Gt.mono (by omega))
    have um:w.heap.size<w1.heap.size:=by have:=hg1.size;simp at this;omega
    have hc1:w1.cell? w=some (.slice Ab p.dP.length cb):=by
     rw[Gt.cell (p:=w) (by simp),tX _ _ _ hsz];exact hc0
    go_wp2_with fail;go_roundw
    case rel=>exact⟨k+1,by omega,by go_num,by rw[FU hf,UL];exact yK,uo,um,hc1⟩
    case measure=>simp[dY];omega
  ·obtain rfl:k=p.dP.length:=by omega
   rw[Ld]at mQ
   go_wp2_with fail;go_loopw[3,5] (λu i wr=>∃k:Nat,k<=p.dP.length/\i=.int .i64 k/\Own iW 1 3 wr (w.heap.size+1) u (yI (FV p true++vT p false k))/\Below w.heap.size w wr/\w.heap.size<wr.heap.size/\wr.cell? ⟨w.heap.size,0,none⟩=some (.slice Ab p.dP.length cb)) (λ_ i _=>p.dP.length - (RowKit.intOf i).toNat)
   case atStart=>exact⟨0,aN _,rfl,by simpa[vT]using mQ,hbw,hsz,hc0⟩
   case round=>
    clear mQ hbw hsz hc0;obtain⟨k,hk,rfl,mQ,hbw,hsz,hc0⟩:=hrel;by_cases hlt:k<p.dP.length
    ·obtain⟨hok,MW,b0,b1,b2,b3⟩:=(hb.up hbw hbw.size).bin hlt;cases hf:(mG p.dP k).front
     ·have lZ:(yI (FV p true++vT p false k)).length<=1000000:=by
       rw[D5,aX];have h1:=Ea p false k;have h2:=Ea p true p.dP.length;rw[Ld]at h2;omega
      go_wp2_with (at_builtin;refine bD ?_)
      unfold Hid;refine jV _ rfl (.tmp 37) (.tmp 39) 23 3 rfl (w.heap.size+1) _ 1 8 underlying23 zS rfl (by decide) (by decide) u3 (yI (FV p true++vT p false k)) (k:Int) rfl (mQ.alloc _) wr 1 rfl rfl (cell_one_new _ _ _) (Dv _) lZ (by simp;omega) ?_
      intro v1 w1 yK hg1 jc6 Gt;have uo:Below w w w1:=(hbw.alloc hbw.size _).trans (Gt.mono (by omega))
      have um:w.heap.size<w1.heap.size:=by have:=hg1.size;simp at this;omega
      have hc1:w1.cell? w=some (.slice Ab p.dP.length cb):=by
       rw[Gt.cell (p:=w) (by simp),tX _ _ _ hsz];exact hc0
      go_wp2_with fail;go_roundw
      case rel=>exact⟨k+1,by omega,by go_num,by rw[FU hf,<- gZ,UL];exact yK,uo,um,hc1⟩
      case measure=>simp[dY];omega
     ·go_wp2_with fail;go_roundw
      case rel=>exact⟨k+1,by omega,by go_num,by rw[Hw (by rw[hf];decide)];exact mQ,hbw,hsz,hc0⟩
      case measure=>simp[dY];omega
    ·obtain rfl:k=p.dP.length:=by omega
     go_wp2_with fail;go_ret
     exact⟨_,rfl,mQ.from_ (by omega),hbw⟩
end
end Wh
namespace Wh
open Go Go.RowKit Go.Proofs Tryz
section
structure SV where
 on:Value
 ak:Value
 aA:Value
 aF:Value
 jf:Value
 O:Value
 dB:Value
 rows:List Value
 aH:List Value
def SV.cells(V:SV):List Value:=[V.on,V.ak,V.aA,V.aF,V.jf,V.O,V.dB]
def SV.val(V:SV):Value:=.agg #[V.on,V.ak,V.aA,V.aF,V.jf,V.O,V.dB]
def mM:Value:=nS
def SV.row(V:SV)(b:Nat):Value:=V.rows.getD b mM
def SV.aK(V:SV)(o:Nat):Value:=V.aH.getD o mM
def Oj(x:Int×Value):List Value:=[x.1,x.2]
def AV(l:List Order)(vs:List Value):List (Int×Value):=List.zipWith (λo u=>(o.eH,u)) l vs
def GN(vs:List Value):Prop:=vs.Pairwise λa b=>∀g,a.ownBlock=some g->b.ownBlock≠some g
structure dX(w:World)(aT:Nat)(V:SV)(s:aI):Prop where
 on:Own (λu:Value=>[u]) 1 23 w aT V.on V.rows
 rlen:V.rows.length=s.on.length
 row:∀b,b<s.on.length->Own iW 1 3 w aT (V.row b) (fO s.on b)
 ak:Own Oj 2 114 w aT V.ak (AV s.ak V.aH)
 llen:V.aH.length=s.ak.length
 aK:∀o,o<s.ak.length->Own mX 4 106 w aT (V.aK o) (s.aC o).aH
 aA:Own iD 4 116 w aT V.aA s.aA
 aF:Own oC 4 118 w aT V.aF s.aF
 jf:Own iW 1 3 w aT V.jf s.jf
 O:Own iW 1 3 w aT V.O s.O
 dB:Own iW 1 3 w aT V.dB s.dB
 apart:GN (V.rows++[V.jf,V.O,V.dB])
 yT:GN V.aH
theorem vg{l:List Order}{vs:List Value}(h:vs.length=l.length):(AV l vs).length=l.length:=by
 unfold AV;rw[DN];omega
theorem jcj{l:List Order}{vs:List Value}{i:Nat}(h:vs.length=l.length)(hi:i<l.length):(AV l vs)[i]?=some ((bK l i).eH,vs.getD i mM):=by
 unfold AV;rw[qc,bQ hi,bQ (by omega),uO hi]
 simp[show i<vs.length by omega]
theorem jkO{vs:List Value}(h:GN vs){i j:Nat}(hi:i<vs.length)(hj:j<vs.length)(hne:i≠j){g:Nat}(hg:(vs.getD i mM).ownBlock=some g):(vs.getD j mM).ownBlock≠some g:=by
 have e1:vs.getD i mM=vs[i]:=by simp[hi]
 have e2:vs.getD j mM=vs[j]:=by simp[hj]
 rw[e1]at hg
 rw[e2];rcases Nat.lt_or_gt_of_ne hne with h1|h1
 ·exact ji.1 h i j hi hj h1 g hg
 ·intro he;exact ji.1 h j i hj hi h1 g he hg
theorem MS{vs:List Value}(h:GN vs){i j:Nat}(hi:i<vs.length)(hj:j<vs.length)(hne:i≠j):(vs.getD i mM).ownBlock=none\/(vs.getD i mM).ownBlock≠(vs.getD j mM).ownBlock:=by
 cases hb:(vs.getD i mM).ownBlock with
 |none=>exact .inl rfl
 |some g=>exact .inr λhe=>jkO h hi hj hne hb he.symm
namespace dX
variable {w w':World} {aT:Nat} {V:SV} {s:aI}
theorem below(h:dX w aT V s)(hb:Below w w w'):dX w' aT V s:=
 ⟨h.on.below hb,h.rlen,λb hlt=>(h.row b hlt).below hb,h.ak.below hb,h.llen,λo ho=>(h.aK o ho).below hb,h.aA.below hb,h.aF.below hb,h.jf.below hb,h.O.below hb,h.dB.below hb,h.apart,h.yT⟩
theorem alloc(h:dX w aT V s)(o:Obj):dX (w.alloc o) aT V s:=h.below ((aj _ _).alloc (ay _) _)
theorem drew(h:dX w aT V s):dX w.drew aT V s:=h.below (aj _ _).drew
theorem from_(h:dX w aT V s){base':Nat}(hb:base'<=aT):dX w base' V s:=
 ⟨h.on.from_ hb,h.rlen,λb hlt=>(h.row b hlt).from_ hb,h.ak.from_ hb,h.llen,λo ho=>(h.aK o ho).from_ hb,h.aA.from_ hb,h.aF.from_ hb,h.jf.from_ hb,h.O.from_ hb,h.dB.from_ hb,h.apart,h.yT⟩
theorem jij(h:dX w aT V s){b:Nat}(hb:b<s.on.length):V.rows[b]?=some (V.row b):=by
 unfold SV.row;simp[show b<V.rows.length by rw[h.rlen];exact hb]
theorem jf8(h:dX w aT V s){o:Nat}(ho:o<s.ak.length):V.aH[o]?=some (V.aK o):=by
 unfold SV.aK;simp[show o<V.aH.length by rw[h.llen];exact ho]
theorem view(h:dX w aT V s){p:dG}(hs:pz p s):kG w w V.val s:=by
 have h72:=qH hs.aA;have h8:=hs.uf;have h4:=hs.nX;have hc:=hs.counts;have hon:=hs.sO;obtain⟨A,c,hv,_,hA⟩:=h.on.sl (by rw[h.rlen];omega)
 obtain⟨A1,c1,hv1,_,hA1⟩:=h.ak.sl (by rw[vg h.llen];omega)
 refine⟨_,_,_,_,_,_,_,rfl,⟨A,c,V.rows,by rw[hv,h.rlen],by omega,h.rlen,?_,λi x hi=>?_⟩,⟨A1,c1,V.aH,by rw[hv1,vg h.llen],by omega,h.llen,?_,λi x hi=>?_⟩,h.aA.sl (by omega),h.aF.sl (by omega),h.jf.sl (by rw[hs.jf.1];omega),h.O.sl (by rw[hs.O.1];omega),h.dB.sl (by rw[hs.dB.1];omega)⟩
 ·have:V.rows.flatMap (λu=>[u])=V.rows:=by simp
  rw[this]at hA
  exact hA
 ·have hil:i<s.on.length:=(fA.1 hi).1
  have hx:fO s.on i=x:=by rw[AU hil];exact(fA.1 hi).2
  exact⟨_,h.jij hil,by rw[<- hx];exact(h.row i hil).sl (by rw[hs.rowLen (by omega)];omega)⟩
 ·have e:(s.ak.zip V.aH).flatMap (λx=>[Value.int .i64 x.1.eH,x.2])=(AV s.ak V.aH).flatMap Oj:=by
   unfold AV Oj;rw[DK,xG,xG,xE,xE]
  rw[e];exact hA1
 ·have hil:i<s.ak.length:=(fA.1 hi).1
  have hx:s.aC i=x:=by unfold aI.aC;rw[uO hil];exact(fA.1 hi).2
  have:=hs.rE hil;rw[hx]at this
  exact⟨_,h.jf8 hil,by rw[<- hx];exact(h.aK i hil).sl (by rw[hx];omega)⟩
theorem jge(V:SV):(V.rows++[V.jf,V.O,V.dB]).getD (V.rows.length+0) mM=V.jf:=by simp
theorem jfX(V:SV):(V.rows++[V.jf,V.O,V.dB]).getD (V.rows.length+1) mM=V.O:=by simp
theorem VO(V:SV):(V.rows++[V.jf,V.O,V.dB]).getD (V.rows.length+2) mM=V.dB:=by simp
theorem WC(V:SV){b:Nat}(hb:b<V.rows.length):(V.rows++[V.jf,V.O,V.dB]).getD b mM=V.row b:=by
 unfold SV.row;simp[fE hb]
theorem lenV(V:SV):(V.rows++[V.jf,V.O,V.dB]).length=V.rows.length+3:=by simp
theorem jiL(h:dX w aT V s)(hb:Below w w w'){v:Value}{l:List eX}(hv:Own iD 4 116 w' aT v l):dX w' aT {V with aA:=v} {s with aA:=l}:=
 let k:=h.below hb
 ⟨k.on,k.rlen,k.row,k.ak,k.llen,k.aK,hv,k.aF,k.jf,k.O,k.dB,k.apart,k.yT⟩
theorem Xa(h:dX w aT V s)(hg:w.grownBy w' V.aF.ownBlock){v:Value}{l:List Move}(hv:Own oC 4 118 w' aT v l):dX w' aT {V with aF:=v} {s with aF:=l}:=
 ⟨h.on.kept hg (h.on.apart h.aF (by decide)),h.rlen,λb hb=>(h.row b hb).kept hg ((h.row b hb).apart h.aF (by decide)),h.ak.kept hg (h.ak.apart h.aF (by decide)),h.llen,λo ho=>(h.aK o ho).kept hg ((h.aK o ho).apart h.aF (by decide)),h.aA.kept hg (h.aA.apart h.aF (by decide)),hv,h.jf.kept hg (h.jf.apart h.aF (by decide)),h.O.kept hg (h.O.apart h.aF (by decide)),h.dB.kept hg (h.dB.apart h.aF (by decide)),h.apart,h.yT⟩
theorem VW(h:dX w aT V s)(hg:w.grownBy w' V.aA.ownBlock){v:Value}{l:List eX}(hv:Own iD 4 116 w' aT v l):dX w' aT {V with aA:=v} {s with aA:=l}:=
 ⟨h.on.kept hg (h.on.apart h.aA (by decide)),h.rlen,λb hb=>(h.row b hb).kept hg ((h.row b hb).apart h.aA (by decide)),h.ak.kept hg (h.ak.apart h.aA (by decide)),h.llen,λo ho=>(h.aK o ho).kept hg ((h.aK o ho).apart h.aA (by decide)),hv,h.aF.kept hg (h.aF.apart h.aA (by decide)),h.jf.kept hg (h.jf.apart h.aA (by decide)),h.O.kept hg (h.O.apart h.aA (by decide)),h.dB.kept hg (h.dB.apart h.aA (by decide)),h.apart,h.yT⟩
theorem Ub{s:aI}{o o':Nat}{x:Order}(ho:o<s.ak.length):bK (s.ak.set o x) o'=if o'=o then x else s.aC o':=by
 unfold aI.aC bK;by_cases h:o'=o
 ·subst h;simp[ho]
 ·rw[au h];simp[uy h]
theorem jci{l:List Order}{vs:List Value}{o:Nat}{x:Order}(hx:x.eH=(bK l o).eH):AV (l.set o x) vs=AV l vs:=by
 unfold AV;apply ng;intro i;rw[qc,qc,qm]
 by_cases h:o=i
 ·subst h;rw[aB rfl];by_cases hl:o<l.length
  ·rw[aB hl,bQ hl]
   cases vs[o]? with
   |none=>rfl
   |some u=>
    simp only;rw[hx,uO hl]
  ·rw[au hl,qg (show l.length<=o by omega)]
 ·rw[au h]
theorem mD(h:dX w aT V s){o k:Nat}(ho:o<s.ak.length)(hk:k<(s.aC o).aH.length){gl n c:Nat}(hv:V.aK o=.slice (some gl) n c){j:Nat}(hj:j<4){y:Line}{u:Value}
  (hy:mX y=(mX (s.aK o k)).set j u):dX (w.setCell ⟨gl,k*4+j,none⟩ u) aT V (s.mD o k y)/\w.grownBy (w.setCell ⟨gl,k*4+j,none⟩ u) (some gl):=by
 have hl:=h.aK o ho;have hl':=hl;rw[hv]at hl'
 have hlk:s.aK o k=(s.aC o).aH[k]:=by unfold aI.aK;rw[qw hk]
 obtain⟨o1,hg⟩:=hl'.store (λ_=>rfl) hk hj (y:=y) (u:=u) (by rw[hy,hlk])
 have hob:(V.aK o).ownBlock=some gl:=by rw[hv];rfl
 have hg':w.grownBy (w.setCell ⟨gl,k*4+j,none⟩ u) (V.aK o).ownBlock:=by rw[hob];exact hg
 have lZ:(s.mD o k y).ak.length=s.ak.length:=by unfold aI.mD;simp
 have hor:∀o',(s.mD o k y).aC o'=if o'=o then {s.aC o with aH:=(s.aC o).aH.set k y}else s.aC o':=λo'=>Ub ho
 refine⟨⟨h.on.kept hg' (h.on.apart hl (by decide)),h.rlen,λb hb=>(h.row b hb).kept hg' ((h.row b hb).apart hl (by decide)),?_,by rw[lZ];exact h.llen,λo' ho'=>?_,h.aA.kept hg' (h.aA.apart hl (by decide)),h.aF.kept hg' (h.aF.apart hl (by decide)),h.jf.kept hg' (h.jf.apart hl (by decide)),h.O.kept hg' (h.O.apart hl (by decide)),h.dB.kept hg' (h.dB.apart hl (by decide)),h.apart,h.yT⟩,hg⟩
 ·have e:AV (s.mD o k y).ak V.aH=AV s.ak V.aH:=jci rfl;rw[e];exact h.ak.kept hg' (h.ak.apart hl (by decide))
 ·rw[lZ]at ho'
  rw[hor];by_cases he:o'=o
  ·subst he;rw[aB rfl,hv];exact o1
  ·rw[au he];exact(h.aK o' ho').kept hg' (MS h.yT (by rw[h.llen];exact ho') (by rw[h.llen];exact ho) he)
theorem setKind(h:dX w aT V s){o:Nat}(ho:o<s.ak.length){go n c:Nat}(hv:V.ak=.slice (some go) n c)(q:Int):
  dX (w.setCell ⟨go,o*2,none⟩ (q)) aT V {s with ak:=s.ak.set o {s.aC o with eH:=q}}/\w.grownBy (w.setCell ⟨go,o*2,none⟩ (q)) (some go):=by
 have hl:=h.ak;have hl':=hl;rw[hv]at hl'
 have hol:o<(AV s.ak V.aH).length:=by rw[vg h.llen];exact ho
 have hget:(AV s.ak V.aH)[o]=((bK s.ak o).eH,V.aH.getD o mM):=by
  have:=jcj h.llen ho;rw[bQ hol]at this
  exact lF this
 obtain⟨o1,hg⟩:=hl'.store (i:=o) (λ_=>rfl) hol (show 0<2 by omega) (y:=(q,V.aH.getD o mM)) (u:=q) (by rw[hget];rfl)
 have hob:V.ak.ownBlock=some go:=by rw[hv];rfl
 rw[fZ]at o1 hg
 have hg':w.grownBy (w.setCell ⟨go,o*2,none⟩ (q)) V.ak.ownBlock:=by rw[hob];exact hg
 have lZ:(s.ak.set o {s.aC o with eH:=q}).length=s.ak.length:=by simp
 refine⟨⟨h.on.kept hg' (h.on.apart hl (by decide)),h.rlen,λb hb=>(h.row b hb).kept hg' ((h.row b hb).apart hl (by decide)),?_,by rw[lZ];exact h.llen,λo' ho'=>?_,h.aA.kept hg' (h.aA.apart hl (by decide)),h.aF.kept hg' (h.aF.apart hl (by decide)),h.jf.kept hg' (h.jf.apart hl (by decide)),h.O.kept hg' (h.O.apart hl (by decide)),h.dB.kept hg' (h.dB.apart hl (by decide)),h.apart,h.yT⟩,hg⟩
 ·rw[hv];have e:AV (s.ak.set o {s.aC o with eH:=q}) V.aH=(AV s.ak V.aH).set o (q,V.aH.getD o mM):=by
   unfold AV;apply ng;intro i;rw[qc,qm,qm,qc]
   by_cases he:o=i
   ·subst he;have hvl:o<V.aH.length:=by rw[h.llen];exact ho
    rw[aB rfl,aB ho,aB rfl,aB (by rw[DN];omega),bQ hvl]
    simp[hvl]
   ·rw[au he,au he]
  show Own Oj 2 114 _ aT _ (AV (s.ak.set o {s.aC o with eH:=q}) V.aH)
  rw[e];exact o1
 ·rw[lZ]at ho'
  have hor:aI.aC {s with ak:=s.ak.set o {s.aC o with eH:=q}} o'=if o'=o then {s.aC o with eH:=q}else s.aC o':=Ub ho
  rw[hor];have k1:=(h.aK o' ho').kept hg' ((h.aK o' ho').apart hl (by decide))
  by_cases he:o'=o
  ·subst he;rw[aB rfl];exact k1
  ·rw[au he];exact k1
theorem Zn(h:dX w aT V s){b g:Nat}(hb:b<s.on.length)(hgl:g<(fO s.on b).length){gr n c:Nat}(hv:V.row b=.slice (some gr) n c)(q:Int):
  dX (w.setCell ⟨gr,g,none⟩ (q)) aT V {s with on:=setCell s.on b g q}/\w.grownBy (w.setCell ⟨gr,g,none⟩ (q)) (some gr):=by
 have hl:=h.row b hb;have hl':=hl;rw[hv]at hl'
 obtain⟨o1,hg⟩:=hl'.store (i:=g) (λ_=>rfl) hgl (show 0<1 by omega) (y:=q) (u:=q) rfl
 rw[sS,fZ]at o1 hg
 have hob:(V.row b).ownBlock=some gr:=by rw[hv];rfl
 have hg':w.grownBy (w.setCell ⟨gr,g,none⟩ (q)) (V.row b).ownBlock:=by rw[hob];exact hg
 have hbV:b<V.rows.length:=by rw[h.rlen];exact hb
 have key:∀i,i<V.rows.length+3->i≠b->((V.rows++[V.jf,V.O,V.dB]).getD i mM).ownBlock=none\/((V.rows++[V.jf,V.O,V.dB]).getD i mM).ownBlock≠(V.row b).ownBlock:=λi hi hne=>by
  have:=MS h.apart (i:=i) (j:=b) (by rw[lenV];exact hi) (by rw[lenV];omega) hne
  rw[WC V hbV]at this
  exact this
 refine⟨⟨h.on.kept hg' (h.on.apart hl (by decide)),by rw[qj];exact h.rlen,λi hi=>?_,h.ak.kept hg' (h.ak.apart hl (by decide)),h.llen,λo ho=>(h.aK o ho).kept hg' ((h.aK o ho).apart hl (by decide)),h.aA.kept hg' (h.aA.apart hl (by decide)),h.aF.kept hg' (h.aF.apart hl (by decide)),h.jf.kept hg' ?_,h.O.kept hg' ?_,h.dB.kept hg' ?_,h.apart,h.yT⟩,hg⟩
 ·rw[qj]at hi
  unfold Wh.setCell;rw[rowAt_set hb];by_cases he:i=b
  ·subst he;rw[aB rfl,hv];exact o1
  ·rw[au he];have:=key i (by rw[h.rlen];omega) he
   rw[WC V (by rw[h.rlen];exact hi)]at this
   exact(h.row i hi).kept hg' this
 ·have:=key (V.rows.length+0) (by omega) (by omega)
  rw[jge]at this
  exact this
 ·have:=key (V.rows.length+1) (by omega) (by omega)
  rw[jfX]at this
  exact this
 ·have:=key (V.rows.length+2) (by omega) (by omega)
  rw[VO]at this
  exact this
theorem jia(h:dX w aT V s){g:Nat}(hgl:g<s.jf.length){gr n c:Nat}(hv:V.jf=.slice (some gr) n c)(q:Int):
  dX (w.setCell ⟨gr,g,none⟩ (q)) aT V {s with jf:=s.jf.set g q}/\w.grownBy (w.setCell ⟨gr,g,none⟩ (q)) (some gr):=by
 have hl:=h.jf;have hl':=hl;rw[hv]at hl'
 obtain⟨o1,hg⟩:=hl'.store (i:=g) (λ_=>rfl) hgl (show 0<1 by omega) (y:=q) (u:=q) rfl
 rw[sS,fZ]at o1 hg
 have hob:V.jf.ownBlock=some gr:=by rw[hv];rfl
 have hg':w.grownBy (w.setCell ⟨gr,g,none⟩ (q)) V.jf.ownBlock:=by rw[hob];exact hg
 have key:∀i,i<V.rows.length+3->i≠V.rows.length+0->((V.rows++[V.jf,V.O,V.dB]).getD i mM).ownBlock=none\/((V.rows++[V.jf,V.O,V.dB]).getD i mM).ownBlock≠V.jf.ownBlock:=λi hi hne=>by
  have:=MS h.apart (i:=i) (j:=V.rows.length+0) (by rw[lenV];exact hi) (by rw[lenV];omega) hne
  rw[jge]at this
  exact this
 refine⟨⟨h.on.kept hg' (h.on.apart hl (by decide)),h.rlen,λi hi=>?_,h.ak.kept hg' (h.ak.apart hl (by decide)),h.llen,λo ho=>(h.aK o ho).kept hg' ((h.aK o ho).apart hl (by decide)),h.aA.kept hg' (h.aA.apart hl (by decide)),h.aF.kept hg' (h.aF.apart hl (by decide)),?_,?_,?_,h.apart,h.yT⟩,hg⟩
 ·have hi':i<s.on.length:=hi;have hr:=h.rlen;have:=key i (by omega) (by omega)
  rw[WC V (by omega)]at this
  exact(h.row i hi).kept hg' this
 ·rw[hv];exact o1
 ·have:=key (V.rows.length+1) (by omega) (by omega)
  rw[jfX]at this
  exact h.O.kept hg' this
 ·have:=key (V.rows.length+2) (by omega) (by omega)
  rw[VO]at this
  exact h.dB.kept hg' this
theorem jnO(h:dX w aT V s){g:Nat}(hgl:g<s.O.length){gr n c:Nat}(hv:V.O=.slice (some gr) n c)(q:Int):
  dX (w.setCell ⟨gr,g,none⟩ (q)) aT V {s with O:=s.O.set g q}/\w.grownBy (w.setCell ⟨gr,g,none⟩ (q)) (some gr):=by
 have hl:=h.O;have hl':=hl;rw[hv]at hl'
 obtain⟨o1,hg⟩:=hl'.store (i:=g) (λ_=>rfl) hgl (show 0<1 by omega) (y:=q) (u:=q) rfl
 rw[sS,fZ]at o1 hg
 have hob:V.O.ownBlock=some gr:=by rw[hv];rfl
 have hg':w.grownBy (w.setCell ⟨gr,g,none⟩ (q)) V.O.ownBlock:=by rw[hob];exact hg
 have key:∀i,i<V.rows.length+3->i≠V.rows.length+1->((V.rows++[V.jf,V.O,V.dB]).getD i mM).ownBlock=none\/((V.rows++[V.jf,V.O,V.dB]).getD i mM).ownBlock≠V.O.ownBlock:=λi hi hne=>by
  have:=MS h.apart (i:=i) (j:=V.rows.length+1) (by rw[lenV];exact hi) (by rw[lenV];omega) hne
  rw[jfX]at this
  exact this
 refine⟨⟨h.on.kept hg' (h.on.apart hl (by decide)),h.rlen,λi hi=>?_,h.ak.kept hg' (h.ak.apart hl (by decide)),h.llen,λo ho=>(h.aK o ho).kept hg' ((h.aK o ho).apart hl (by decide)),h.aA.kept hg' (h.aA.apart hl (by decide)),h.aF.kept hg' (h.aF.apart hl (by decide)),?_,?_,?_,h.apart,h.yT⟩,hg⟩
 ·have hi':i<s.on.length:=hi;have hr:=h.rlen;have:=key i (by omega) (by omega)
  rw[WC V (by omega)]at this
  exact(h.row i hi).kept hg' this
 ·have:=key (V.rows.length+0) (by omega) (by omega)
  rw[jge]at this
  exact h.jf.kept hg' this
 ·rw[hv];exact o1
 ·have:=key (V.rows.length+2) (by omega) (by omega)
  rw[VO]at this
  exact h.dB.kept hg' this
theorem jic(h:dX w aT V s){g:Nat}(hgl:g<s.dB.length){gr n c:Nat}(hv:V.dB=.slice (some gr) n c)(q:Int):
  dX (w.setCell ⟨gr,g,none⟩ (q)) aT V {s with dB:=s.dB.set g q}/\w.grownBy (w.setCell ⟨gr,g,none⟩ (q)) (some gr):=by
 have hl:=h.dB;have hl':=hl;rw[hv]at hl'
 obtain⟨o1,hg⟩:=hl'.store (i:=g) (λ_=>rfl) hgl (show 0<1 by omega) (y:=q) (u:=q) rfl
 rw[sS,fZ]at o1 hg
 have hob:V.dB.ownBlock=some gr:=by rw[hv];rfl
 have hg':w.grownBy (w.setCell ⟨gr,g,none⟩ (q)) V.dB.ownBlock:=by rw[hob];exact hg
 have key:∀i,i<V.rows.length+3->i≠V.rows.length+2->((V.rows++[V.jf,V.O,V.dB]).getD i mM).ownBlock=none\/((V.rows++[V.jf,V.O,V.dB]).getD i mM).ownBlock≠V.dB.ownBlock:=λi hi hne=>by
  have:=MS h.apart (i:=i) (j:=V.rows.length+2) (by rw[lenV];exact hi) (by rw[lenV];omega) hne
  rw[VO]at this
  exact this
 refine⟨⟨h.on.kept hg' (h.on.apart hl (by decide)),h.rlen,λi hi=>?_,h.ak.kept hg' (h.ak.apart hl (by decide)),h.llen,λo ho=>(h.aK o ho).kept hg' ((h.aK o ho).apart hl (by decide)),h.aA.kept hg' (h.aA.apart hl (by decide)),h.aF.kept hg' (h.aF.apart hl (by decide)),?_,?_,?_,h.apart,h.yT⟩,hg⟩
 ·have hi':i<s.on.length:=hi;have hr:=h.rlen;have:=key i (by omega) (by omega)
  rw[WC V (by omega)]at this
  exact(h.row i hi).kept hg' this
 ·have:=key (V.rows.length+0) (by omega) (by omega)
  rw[jge]at this
  exact h.jf.kept hg' this
 ·have:=key (V.rows.length+1) (by omega) (by omega)
  rw[jfX]at this
  exact h.O.kept hg' this
 ·rw[hv];exact o1
end dX
end
section
def jB(w:World)(b:Nat)(V:SV):Prop:=w.heap[b]?=some (.cells V.cells.toArray 40 (0,0))
theorem jB.lt{w:World}{b:Nat}{V:SV}(h:jB w b V):b<w.heap.size:=(bI.1 h).1
theorem jB.blk{w:World}{b:Nat}{V:SV}(h:jB w b V):iJ w b 40 V.cells:=h
theorem jB.below{w w':World}{b B:Nat}{V:SV}(h:jB w b V)(hb:Below B w w')(hB:b<B):jB w' b V:=(hb.block b hB).trans h
theorem jB.grown{w w':World}{b:Nat}{V:SV}{row:Option Nat}(h:jB w b V)(hg:w.grownBy w' row)(hne:some b≠row):jB w' b V:=(hg.block b h.lt hne).trans h
theorem jB.cells{w:World}{b:Nat}{V:SV}(h:jB w b V):w.cell? b=some V.on/\w.cell? ⟨b,1,none⟩=some V.ak/\w.cell? ⟨b,2,none⟩=some V.aA/\w.cell? ⟨b,3,none⟩=some V.aF/\
  w.cell? ⟨b,4,none⟩=some V.jf/\w.cell? ⟨b,5,none⟩=some V.O/\w.cell? ⟨b,6,none⟩=some V.dB:=
 ⟨h.blk.cell rfl,h.blk.cell rfl,h.blk.cell rfl,h.blk.cell rfl,h.blk.cell rfl,h.blk.cell rfl,h.blk.cell rfl⟩
theorem jB.frozen{w:World}{b:Nat}{V:SV}(h:jB w b V)(o:Nat):w.frozen? ⟨b,o,none⟩=false:=h.blk.frozen o
theorem Az{w:World}{g:Nat}{e:TypeId}{cur:List Value}(h:iJ w g e cur)(j:Nat)(u:Value):iJ (w.setCell ⟨g,j,none⟩ u) g e (cur.set j u)/\w.grownBy (w.setCell ⟨g,j,none⟩ u) (some g):=by
 unfold iJ at h
 have hl:=(bI.1 h).1
 constructor
 ·unfold iJ World.setCell;simp[CG,h]
 ·refine⟨rfl,rfl,rfl,by simp[World.setCell],λk hk hne=>?_⟩
  unfold World.setCell;simp only;rw[CG]
  rw[au (λe=>hne (by rw[e]))]
theorem jB.Zn{w:World}{b:Nat}{V:SV}(h:jB w b V)(u:Value):jB (w.setCell b u) b {V with on:=u}:=(Az h.blk 0 u).1
theorem jB.Zm{w:World}{b:Nat}{V:SV}(h:jB w b V)(u:Value):jB (w.setCell ⟨b,1,none⟩ u) b {V with ak:=u}:=(Az h.blk 1 u).1
theorem QN{ops:Array Oper}{rest:List Oper}{o:Oper}{a:Act}{w:World}{Q:Exit->Act->World->Prop}(hgd:o.guard=none)(x y:Operand)(ho:o.op=.store 40 x y)(hn:o.dst=none)(b:Nat)(V V':SV)
  (H9:jB w b V) (hx:a.eval x=.pointer (some b)) (hy:a.eval y=V'.val) (h1:V'.cells.all (λu=>u.oneCell')=true)
  (h:∀w',jB w' b V'->w.grownBy w' (some b)->wpList prog ops Q rest a w'):wpList prog ops Q (o::rest) a w:=
 jo hgd λK hK=>by
  refine wp_store_row (P:=prog) 40 x y ho b V'.cells.toArray hx hy 40 V.cells.toArray H9 (by kernel_rfl) rfl (by simpa using h1) ?_
  rw[hn];exact hK _ _ (h _ (H9.blk.row V'.cells) (wL w b V'.cells.toArray))
theorem Own.qy{α:Type}{enc:α->List Value}{size:Nat}{e:TypeId}{w:World}{aT:Nat}{v:Value}{l:List α}(h:Own enc size e w aT v l){b:Nat}{t:TypeId}{cur:List Value}(hb:iJ w b t cur)(hne:e≠t):
  v.ownBlock=none\/v.ownBlock≠some b:=by
 cases hv:v.ownBlock with
 |none=>exact .inl rfl
 |some g=>
  refine .inr λhe=>?_
  injection he with he
  subst he;obtain⟨c1,h1⟩:=h.block hv;unfold iJ at hb
  rw[h1]at hb
  injection hb with h2
  injection h2 with _ h3
  exact hne h3
namespace dX
variable {w w':World} {aT:Nat} {V:SV} {s:aI}
theorem keptBy(h:dX w aT V s){b:Nat}{t:TypeId}{cur:List Value}(hg:w.grownBy w' (some b))(hb:iJ w b t cur)(h1:23≠t:=by decide)(h2:3≠t:=by decide)(h3:114≠t:=by decide)(h4:106≠t:=by decide)(h5:116≠t:=by decide)(h6:118≠t:=by decide):dX w' aT V s:=
 ⟨h.on.kept hg (h.on.qy hb h1),h.rlen,λb hlt=>(h.row b hlt).kept hg ((h.row b hlt).qy hb h2),h.ak.kept hg (h.ak.qy hb h3),h.llen,λo ho=>(h.aK o ho).kept hg ((h.aK o ho).qy hb h4),h.aA.kept hg (h.aA.qy hb h5),h.aF.kept hg (h.aF.qy hb h6),h.jf.kept hg (h.jf.qy hb h2),h.O.kept hg (h.O.qy hb h2),h.dB.kept hg (h.dB.qy hb h2),h.apart,h.yT⟩
theorem box(h:dX w aT V s){b:Nat}{V':SV}(hb:jB w b V')(j:Nat)(u:Value):dX (w.setCell ⟨b,j,none⟩ u) aT V s:=
 h.keptBy (Az hb.blk j u).2 hb.blk
theorem Zw{l:List Order}{vs:List Value}(h:vs.length=l.length)(x:Order)(u:Value):AV (l++[x]) (vs++[u])=AV l vs++[(x.eH,u)]:=by
 unfold AV;rw[List.zipWith_append h.symm];rfl
theorem L9{w1 w2:World}(h:dX w aT V s)(hb:Below w w w1){u:Value}{x:Order}(hu:Own mX 4 106 w1 aT u x.aH)(hf:∀g,u.ownBlock=some g->w.heap.size<=g)(hg:w1.grownBy w2 V.ak.ownBlock)
  {v':Value} (hv:Own Oj 2 114 w2 aT v' (AV s.ak V.aH++[(x.eH,u)])):dX w2 aT {V with ak:=v',aH:=V.aH++[u]} {s with ak:=s.ak++[x]}:=by
 have k:=h.below hb;refine⟨k.on.kept hg (k.on.apart k.ak (by decide)),k.rlen,λb hlt=>(k.row b hlt).kept hg ((k.row b hlt).apart k.ak (by decide)),?_,by simp[h.llen],λo ho=>?_,k.aA.kept hg (k.aA.apart k.ak (by decide)),k.aF.kept hg (k.aF.apart k.ak (by decide)),k.jf.kept hg (k.jf.apart k.ak (by decide)),k.O.kept hg (k.O.apart k.ak (by decide)),k.dB.kept hg (k.dB.apart k.ak (by decide)),k.apart,?_⟩
 ·show Own Oj 2 114 w2 aT v' (AV (s.ak++[x]) (V.aH++[u]));rw[Zw h.llen];exact hv
 ·have ho':o<s.ak.length+1:=by simpa using ho
  by_cases hlt:o<s.ak.length
  ·have e1:SV.aK {V with ak:=v',aH:=V.aH++[u]} o=V.aK o:=by
    unfold SV.aK;simp[fE (show o<V.aH.length by rw[h.llen];exact hlt)]
   have e2:aI.aC {s with ak:=s.ak++[x]} o=s.aC o:=by
    unfold aI.aC bK;simp[fE hlt]
   rw[e1,e2];exact(k.aK o hlt).kept hg ((k.aK o hlt).apart k.ak (by decide))
  ·have ho2:o=s.ak.length:=by omega
   have e1:SV.aK {V with ak:=v',aH:=V.aH++[u]} o=u:=by
    unfold SV.aK;rw[ho2,<- h.llen];simp
   have e2:aI.aC {s with ak:=s.ak++[x]} o=x:=by
    unfold aI.aC bK;rw[ho2];simp
   rw[e1,e2];exact hu.kept hg (hu.apart k.ak (by decide))
 ·show GN (V.aH++[u]);unfold GN;rw[kY];refine⟨h.yT,qZ _ _,λa ha b hb' g hga=>?_⟩
  obtain rfl:=ig.1 hb';intro he;have h1:=hf g he;obtain⟨i,hi,rfl⟩:=bg ha;have hil:i<s.ak.length:=by rw[<- h.llen];exact hi
  have e1:V.aK i=V.aH[i]:=by unfold SV.aK;simp[hi]
  have h2:=((h.aK i hil).size g (by rw[e1];exact hga)).2
  omega
theorem jek{w2:World}(h:dX w aT V s)(hg:w.grownBy w2 V.ak.ownBlock){u:Value}{x:Order}(hu:Own mX 4 106 w2 aT u x.aH)(hf:∀g,u.ownBlock=some g->w.heap.size<=g)
  {v':Value} (hv:Own Oj 2 114 w2 aT v' (AV s.ak V.aH++[(x.eH,u)])):dX w2 aT {V with ak:=v',aH:=V.aH++[u]} {s with ak:=s.ak++[x]}:=by
 refine⟨h.on.kept hg (h.on.apart h.ak (by decide)),h.rlen,λb hlt=>(h.row b hlt).kept hg ((h.row b hlt).apart h.ak (by decide)),?_,by simp[h.llen],λo ho=>?_,h.aA.kept hg (h.aA.apart h.ak (by decide)),h.aF.kept hg (h.aF.apart h.ak (by decide)),h.jf.kept hg (h.jf.apart h.ak (by decide)),h.O.kept hg (h.O.apart h.ak (by decide)),h.dB.kept hg (h.dB.apart h.ak (by decide)),h.apart,?_⟩
 ·show Own Oj 2 114 w2 aT v' (AV (s.ak++[x]) (V.aH++[u]));rw[Zw h.llen];exact hv
 ·have ho':o<s.ak.length+1:=by simpa using ho
  by_cases hlt:o<s.ak.length
  ·have e1:SV.aK {V with ak:=v',aH:=V.aH++[u]} o=V.aK o:=by
    unfold SV.aK;simp[fE (show o<V.aH.length by rw[h.llen];exact hlt)]
   have e2:aI.aC {s with ak:=s.ak++[x]} o=s.aC o:=by
    unfold aI.aC bK;simp[fE hlt]
   rw[e1,e2];exact(h.aK o hlt).kept hg ((h.aK o hlt).apart h.ak (by decide))
  ·have ho2:o=s.ak.length:=by omega
   have e1:SV.aK {V with ak:=v',aH:=V.aH++[u]} o=u:=by
    unfold SV.aK;rw[ho2,<- h.llen];simp
   have e2:aI.aC {s with ak:=s.ak++[x]} o=x:=by
    unfold aI.aC bK;rw[ho2];simp
   rw[e1,e2];exact hu
 ·show GN (V.aH++[u]);unfold GN;rw[kY];refine⟨h.yT,qZ _ _,λa ha b hb' g hga=>?_⟩
  obtain rfl:=ig.1 hb';intro he;have h1:=hf g he;obtain⟨i,hi,rfl⟩:=bg ha;have hil:i<s.ak.length:=by rw[<- h.llen];exact hi
  have e1:V.aK i=V.aH[i]:=by unfold SV.aK;simp[hi]
  have h2:=((h.aK i hil).size g (by rw[e1];exact hga)).2
  omega
end dX
theorem BH{w1 w2 w3:World}{row:Option Nat}(h:w1.grownBy w2 row)(h':w2.grownBy w3 row):w1.grownBy w3 row:=
 ⟨h'.os.trans h.os,h'.tape.trans h.tape,h'.output.trans h.output,aU h.size h'.size,λk hk hne=>(h'.block k (aJ hk h.size) hne).trans (h.block k hk hne)⟩
theorem kW{w1 w2:World}{row:Option Nat}(h:Below w1 w1 w2):w1.grownBy w2 row:=⟨h.os,h.tape,h.output,h.size,λk hk _=>h.block k hk⟩
section
variable {P:Program}
theorem wF{α:Type}{enc:α->List Value}(w:World)(t ty e:TypeId)(z:Value)(size bytes:Nat)(ht:P.underlying t=some (.slice e))(hi:Elem P e z size bytes)(hzs:z.cells.size=size)(hsz:0<size)(hby:bytes<=64)
  (g:Nat) (hg:iJ w g e []) (m:List α) (A:Option Addr) (c B:Nat) (hk:∀y,(enc y).length=size) (hA:At w B A (m.flatMap enc)) (hn:m.length<=1000000):
  ∃v' w',(Builtin.append_ #[t,t] ty #[.slice (some g) 0 0,.slice A m.length c]).run P w=.ok v' w'/\Below w w w'/\Own enc size e w' g v' m/\(0<m.length->Own enc size e w' w v' m):=by
 have hi0:=hi;obtain⟨i,hi,hz,MG,hbytes⟩:=hi;rcases vN m.length with h0|h0
 ·obtain rfl:m=[]:=jT h0;refine⟨.slice (some g) 0 0,w,?_,aj _ _,Own.OA hk (ay _) hg (ay _) (aN _) (by simp) (by simp),λh=>by simp at h⟩
  cases A with
  |none=>simp[Builtin.append_,mJ ht,Go.sizeOf,typeInfo,hi,Builtin.lenOf,Builtin.firstCells,storeCells]
  |some ad=>
   have hf:=qQ (P:=P) w i.size 0 ad 0 c [] (by simp) (by simp)
   simp[Builtin.append_,mJ ht,Go.sizeOf,typeInfo,hi,Builtin.lenOf,hf,storeCells]
 ·have hp:0<(m.flatMap enc).length:=by rw[lU enc size hk];exact Fp h0 hsz
  have he:=(hA.ok hp).eq;have hmax:m.length<=maxLen:=by unfold maxLen;omega
  have hcap:Builtin.nextslicecap m.length 0*i.bytes<=281474976710656:=by
   rw[nextslicecap_zero h0,hbytes];exact aU (vW hn hby) (by decide)
  have hr:=run_append_grow (P:=P) w t ty e i z ht hi hz g 0 0 [] (by simp) (by simp) ⟨iH A,l9 A,none⟩ m.length c (m.flatMap enc) (by rw[lU enc size hk,MG]) (λj u hj=>by rw[gy];exact hA.cell hj)
   (by omega) (by have:m.length<=1000000:=hn;omega) (by simpa using hcap)
  rw[<- he]at hr
  simp only[fM,Array.empty_append]at hr
  have hge:=grownCap_ge w m.length 0 e;have hcm:=grownCap_le_maxLen w m.length 0 e hmax;have mQ:Own enc size e (w.drew.alloc (.cells ((m.flatMap enc).toArray++Builtin.zeroCells z.cells (grownCap w m.length 0 e - m.length)) e)) w (.slice (some w) m.length (grownCap w m.length 0 e)) m:=by
   have hb:=iJ.new w.drew e ((m.flatMap enc).toArray++Builtin.zeroCells z.cells (grownCap w m.length 0 e - m.length));refine Own.OA hk (ay _) hb hge hcm ?_ ?_
   ·rw[oP,Array.size_append,iR,yx,hzs,lU enc size hk,<- jS];congr 1
    omega
   ·rw[Array.toList_append,<- lU enc size hk];exact List.take_left
  exact⟨_,_,hr,((aj _ _).drew.alloc (ay _) _),mQ.from_ (iQ hg.lt),λ_=>mQ⟩
end
def He(w:World)(B:Nat)(on:List (List Int))(jf:List Int)(vO vI:Value):Prop:=∃gs,qN 23 3 w B vO on gs/\Own iW 1 3 w B vI jf/\∀x∈gs,vI.ownBlock≠some x
def G9(w:World)(B:Nat)(on:List (List Int))(jf out:List Int)(vO vI vU:Value):Prop:=∃gs,qN 23 3 w B vO on gs/\(Own iW 1 3 w B vI jf/\∀x∈gs,vI.ownBlock≠some x)/\
 Own iW 1 3 w B vU out/\(∀x∈gs,vU.ownBlock≠some x)/\∀x,vI.ownBlock=some x->vU.ownBlock≠some x
def GZ(w:World)(B:Nat)(on:List (List Int))(jf out dB:List Int)(vO vI vU vX:Value):Prop:=∃gs,qN 23 3 w B vO on gs/\(Own iW 1 3 w B vI jf/\∀x∈gs,vI.ownBlock≠some x)/\
 (Own iW 1 3 w B vU out/\(∀x∈gs,vU.ownBlock≠some x)/\∀x,vI.ownBlock=some x->vU.ownBlock≠some x)/\
 Own iW 1 3 w B vX dB/\(∀x∈gs,vX.ownBlock≠some x)/\(∀x,vI.ownBlock=some x->vX.ownBlock≠some x)/\∀x,vU.ownBlock=some x->vX.ownBlock≠some x
section
variable {w w':World} {B:Nat} {on:List (List Int)} {jf out dB:List Int} {vO vI vU vX:Value}
theorem He.below(h:He w B on jf vO vI)(hb:Below w w w'):He w' B on jf vO vI:=let ⟨gs,h1,h2,h3⟩:=h;⟨gs,h1.below hb,h2.below hb,h3⟩
theorem G9.below(h:G9 w B on jf out vO vI vU)(hb:Below w w w'):G9 w' B on jf out vO vI vU:=let ⟨gs,h1,⟨h2,h3⟩,h4,h5⟩:=h;⟨gs,h1.below hb,⟨h2.below hb,h3⟩,h4.below hb,h5⟩
theorem GZ.below(h:GZ w B on jf out dB vO vI vU vX)(hb:Below w w w'):GZ w' B on jf out dB vO vI vU vX:=
 let ⟨gs,h1,⟨h2,h3⟩,⟨h4,h5⟩,h6,h7⟩:=h
 ⟨gs,h1.below hb,⟨h2.below hb,h3⟩,⟨h4.below hb,h5⟩,h6.below hb,h7⟩
theorem MI{v:Value}{l:List Int}(h:Own iW 1 3 w' w v l){x:Nat}(hx:x<w.heap.size):v.ownBlock≠some x:=λhe=>by
 have:=(h.size x he).1;omega
theorem He.of{gs:List Nat}(h:qN 23 3 w B vO on gs)(hB:B<=w.heap.size)(hb:Below w w w')(hv:Own iW 1 3 w' w vI jf):He w' B on jf vO vI:=
 ⟨gs,h.below hb,hv.from_ hB,λ_ hx=>MI hv (h.mem hx).2⟩
theorem G9.of(h:He w B on jf vO vI)(hB:B<=w.heap.size)(hb:Below w w w')(hv:Own iW 1 3 w' w vU out):G9 w' B on jf out vO vI vU:=
 let ⟨gs,h1,h2,h3⟩:=h
 ⟨gs,h1.below hb,⟨h2.below hb,h3⟩,hv.from_ hB,λ_ hx=>MI hv (h1.mem hx).2,λx hx=>MI hv (h2.size x hx).2⟩
theorem GZ.of(h:G9 w B on jf out vO vI vU)(hB:B<=w.heap.size)(hb:Below w w w')(hv:Own iW 1 3 w' w vX dB):GZ w' B on jf out dB vO vI vU vX:=
 let ⟨gs,h1,⟨h2,h3⟩,h4,h5,h6⟩:=h
 ⟨gs,h1.below hb,⟨h2.below hb,h3⟩,⟨h4.below hb,h5,h6⟩,hv.from_ hB,λ_ hx=>MI hv (h1.mem hx).2,λx hx=>MI hv (h2.size x hx).2,λx hx=>MI hv (h4.size x hx).2⟩
theorem qN.isSlice{E2 E1:TypeId}{gs:List Nat}{v:Value}(h:qN E2 E1 w B v on gs):∃A c,v=.slice A on.length c:=by
 obtain⟨vs,h1,h2,_⟩:=h;obtain⟨A,c,e⟩:=h1.isSlice;exact⟨A,c,by rw[e,h2]⟩
theorem He.isSlice(h:He w B on jf vO vI):∃A c,vI=.slice A jf.length c:=let ⟨_,_,h2,_⟩:=h;h2.isSlice
theorem G9.isSlice(h:G9 w B on jf out vO vI vU):∃A c,vU=.slice A out.length c:=let ⟨_,_,_,h4,_⟩:=h;h4.isSlice
theorem GZ.isSlice(h:GZ w B on jf out dB vO vI vU vX):∃A c,vX=.slice A dB.length c:=let ⟨_,_,_,_,h6,_⟩:=h;h6.isSlice
theorem GZ.jcJ(h:GZ w B on jf out dB vO vI vU vX):∃A c,vO=.slice A on.length c:=let ⟨_,h1,_⟩:=h;h1.isSlice
theorem GZ.made(h:GZ w B on jf out dB vO vI vU vX){vH vM:Value}{aA:List eX}{aF:List Move}(hH:Own iD 4 116 w B vH aA)(hM:Own oC 4 118 w B vM aF):
  ∃vs,dX w B ⟨vO,mM,vH,vM,vI,vU,vX,vs,[]⟩ ⟨on,[],aA,aF,jf,out,dB⟩:=by
 obtain⟨gs,⟨vs,k1,k2,k3,k4,k5⟩,⟨h2,h3⟩,⟨h4,h5,h6⟩,h7,h8,h9,h10⟩:=h;have wK:∀b,b<on.length->∃g c,vs.getD b mM=.slice (some ⟨g,0,none⟩) (fO on b).length c/\gs[b]?=some g/\Own iW 1 3 w B (.slice (some ⟨g,0,none⟩) (fO on b).length c) (fO on b):=λb hb=>by
  obtain⟨g,c,e1,e2,e3⟩:=k5 b on[b] (by simp[hb])
  rw[AU hb];exact⟨g,c,by rw[fK,e1];rfl,e2,e3⟩
 have hmem:∀u∈vs,∃g∈gs,u.ownBlock=some g:=λu hu=>by
  obtain⟨i,hi,rfl⟩:=bg hu;obtain⟨g,c,e1,e2,_⟩:=k5 i on[i] (by simp[<- k2,hi])
  rw[bQ hi]at e1
  injection e1 with e1
  exact⟨g,qC e2,by rw[e1];rfl⟩
 refine⟨vs,k1,k2,λb hb=>?_,Own.nil,rfl,(λo ho=>by cases ho),hH,hM,h2,h4,h7,?_,List.Pairwise.nil⟩
 ·obtain⟨g,c,e1,_,e3⟩:=wK b hb;show Own iW 1 3 w B (vs.getD b mM) (fO on b);rw[e1];exact e3
 ·show GN (vs++[vI,vU,vX]);unfold GN;rw[kY];refine⟨?_,?_,λa ha b hb g hg=>?_⟩
  ·rw[ji];intro i j hi hj hij g hg he;obtain⟨g1,c1,a1,b1,_⟩:=k5 i on[i] (by simp[<- k2,hi])
   obtain⟨g2,c2,a2,b2,_⟩:=k5 j on[j] (by simp[<- k2,hj])
   rw[bQ hi]at a1
   rw[bQ hj]at a2
   injection a1 with a1
   injection a2 with a2
   rw[a1]at hg
   rw[a2]at he
   simp only[Value.ownBlock,mZ]at hg he
   have hgi:i<gs.length:=by rw[k3,<- k2];exact hi
   have hgj:j<gs.length:=by rw[k3,<- k2];exact hj
   rw[bQ hgi]at b1
   rw[bQ hgj]at b2
   injection b1 with b1
   injection b2 with b2
   have:gs[i]=gs[j]:=by rw[b1,b2,hg,he]
   have:=(List.getElem_inj k4).1 this;omega
  ·refine List.Pairwise.cons (λb hb g hg=>?_) (List.Pairwise.cons (λb hb g hg=>?_) (qZ _ _))
   ·rcases fF.1 hb with rfl|hb
    ·exact h6 g hg
    ·obtain rfl:=ig.1 hb;exact h9 g hg
   ·obtain rfl:=ig.1 hb;exact h10 g hg
  ·obtain⟨g',hg',e⟩:=hmem a ha;rw[hg]at e
   injection e with e
   subst e;simp only[fF,mg,lC]at hb
   rcases hb with rfl|rfl|rfl
   ·exact h3 g hg'
   ·exact h5 g hg'
   ·exact h8 g hg'
end
end
section
theorem Below.gV{k:Nat}{a w w':World}(h:Below a.heap.size a w)(hg:w.grownBy w' (some k))(hk:a.heap.size<=k:=by omega):Below a.heap.size a w':=
 h.grown hg h.size (λ_ e=>by injection e;omega)
theorem dU{ops:Array Oper}{rest:List Oper}{o:Oper}{a:Act}{w:World}{Q:Exit->Act->World->Prop}{b:Nat}(x y:Operand)(V V':SV)(ho:(o.guard,o.op,o.dst)=(none,.store 40 x y,none))
  (H9:jB w b V) (hxy:(a.eval x,a.eval y)=(.pointer (some ⟨b,0,none⟩),V'.val)) (h1:V'.cells.all (λu=>u.oneCell')=true)
  (h:∀w',jB w' b V'->w.grownBy w' (some b)->wpList prog ops Q rest a w'):wpList prog ops Q (o::rest) a w:=by
 injection ho with h2 h3
 injection h3 with h3 h4
 injection hxy with h5 h6
 exact QN h2 x y h3 h4 b V V' H9 h5 h6 h1 h
theorem jl{fn:Func}{R:Ending->World->Prop}{a:Act}{w:World}{i j b:Nat}{V:SV}(hr:fn.results=#[.cell i 40,.tmp j])(h:jB w b V)
  (hi:a.tmps.getD i undef=.pointer (some ⟨b,0,none⟩)) (hd:a.defers=[]) (hR:R (.returned (.tuple #[V.val,a.tmps.getD j undef])) w):bodyPost prog fn R .ret a w:=by
 refine bV (v:=.tuple #[V.val,a.tmps.getD j undef]) ?_ hd hR
 obtain⟨p0,p1,p2,p3,p4,p5,p6⟩:=jB.cells h;have hi':=hi;rw[lg]at hi'
 simp[results,hr,hi',go_sem,SV.val,p0,p1,p2,p3,p4,p5,p6]
end
end Wh
