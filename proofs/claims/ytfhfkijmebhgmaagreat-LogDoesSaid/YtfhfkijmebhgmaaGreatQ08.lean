/- Texts of the claim, joined. -/
import Derived.Test.YtfhfkijmebhgmaaGreatChecked
import Derived.Test.YtfhfkijmebhgmaaGreatQ07
import Derived.Test.YtfhfkijmebhgmaaGreatQ02
set_option maxHeartbeats 20000000
set_option maxRecDepth 100000
namespace Wh
open Go Go.RowKit Go.Shelf Go.Proofs Tryz
attribute [local go_sem] au
theorem Wx (w:World) (v:Value) (l:List Bin) (g:FuncId) (lb:Array Value) (pred:Bin→Bool) (eg:Enters prog g) (hv:Sl Jv w w.heap.size v l)
  (hf:∀ k,k<l.length→∀ W,Below w.heap.size w W→Calls prog g (#[jhy (fK l k)]++lb) W fun e W'=>e=.returned (.bool (pred (fK l k)))∧Below W.heap.size W W'):
  Calls prog 168 #[v,.func (.func g) #[] lb] w fun e w'=>e=.returned (.int .i64 (idxOf pred l))∧Below w.heap.size w w':=by
 obtain ⟨A,c,rfl,hl,hA⟩:=hv;have eg':∀ args w,Sem.run prog (callFunc g args) w=.ok (.enter g args) w:=eg;go_enter func168,ntmps168
 go_wp2_with fail;go_loopw [5,8] (fun _ i wr=>∃ k:Nat,k≤l.length∧i=.int .i64 k∧(∀ j,j<k→pred (fK l j)=false)∧Below w.heap.size w wr) (fun _ i _=>l.length - (intOf i).toNat)
 case atStart=>exact ⟨0,aT _,rfl,fun j hj=>by omega,aj _ _⟩
 case round=>
  obtain ⟨k,hk,rfl,hall,hbw⟩:=hrel;have hal:∀ j (hj:j<k),pred (l[j]'(by omega))=false:=fun j hj=>by have:=hall j hj;rwa [CS (by omega)] at this
  by_cases hlt:k<l.length
  ·obtain ⟨hok,EX,b0,b1,b2,b3⟩:=(hA.up hbw hbw.size).bin hlt;go_wp2_with fail;refine (hf k hlt _ hbw).mono ?_
   rintro e W1 ⟨rfl,hb1⟩;have jM:=hbw.trans (hb1.mono hbw.size);cases hp:pred (fK l k)
   ·go_wp2_with fail;go_roundw
    case rel=>
     refine ⟨k+1,by omega,by go_num,fun j hj=>?_,jM⟩
     rcases dB.1 hj with h|rfl
     ·exact hall j h
     ·exact hp
    case measure=>simp [intOf];omega
   ·go_wp2_with fail;go_ret
    exact ⟨bT (ED hlt (by rw [CS hlt] at hp;exact hp) hal),jM⟩
  ·obtain rfl:k=l.length:=by omega
   go_wp2_with fail;go_ret
   exact ⟨bT (yj fun j hj=>by have:=hall j hj;rwa [CS hj] at this),hbw⟩
theorem OT (w:World) (v:Value) (l:List Bin) (g:FuncId) (lb:Array Value) (pred:Bin→Bool) (eg:Enters prog g) (hv:Sl Jv w w.heap.size v l)
  (hf:∀ k,k<l.length→∀ W,Below w.heap.size w W→Calls prog g (#[jhy (fK l k)]++lb) W fun e W'=>e=.returned (.bool (pred (fK l k)))∧Below W.heap.size W W'):
  Calls prog 148 #[v,.func (.func g) #[] lb] w fun e w'=>e=.returned (.bool (l.any pred))∧Below w.heap.size w w':=by
 have H:=Lib.hid (Wx w v l g lb pred eg hv hf);clear hf;go_enter func148,ntmps148
 go_wp2_with fail;refine H.out.mono ?_
 rintro e W1 ⟨rfl,hb1⟩;go_wp2_with fail;go_ret
 exact ⟨aY (AB pred l),hb1⟩
theorem TL (w:World) (v:Value) (l:List Line) (g:FuncId) (lb:Array Value) (pred:Line→Bool) (eg:Enters prog g) (hv:Sl eP w w.heap.size v l)
  (hf:∀ k,k<l.length→∀ W,Below w.heap.size w W→Calls prog g (#[BL (bH l k)]++lb) W fun e W'=>e=.returned (.bool (pred (bH l k)))∧Below W.heap.size W W'):
  Calls prog 152 #[v,.func (.func g) #[] lb] w fun e w'=>e=.returned (.int .i64 (idxOf pred l))∧Below w.heap.size w w':=by
 obtain ⟨A,c,rfl,hl,hA⟩:=hv;have eg':∀ args w,Sem.run prog (callFunc g args) w=.ok (.enter g args) w:=eg;go_enter func152,ntmps152
 go_wp2_with fail;go_loopw [5,8] (fun _ i wr=>∃ k:Nat,k≤l.length∧i=.int .i64 k∧(∀ j,j<k→pred (bH l j)=false)∧Below w.heap.size w wr) (fun _ i _=>l.length - (intOf i).toNat)
 case atStart=>exact ⟨0,aT _,rfl,fun j hj=>by omega,aj _ _⟩
 case round=>
  obtain ⟨k,hk,rfl,hall,hbw⟩:=hrel;have hal:∀ j (hj:j<k),pred (l[j]'(by omega))=false:=fun j hj=>by have:=hall j hj;rwa [iZ (by omega)] at this
  by_cases hlt:k<l.length
  ·obtain ⟨hok,EX,b0,b1,b2,b3⟩:=(hA.up hbw hbw.size).line hlt;go_wp2_with fail;refine (hf k hlt _ hbw).mono ?_
   rintro e W1 ⟨rfl,hb1⟩;have jM:=hbw.trans (hb1.mono hbw.size);cases hp:pred (bH l k)
   ·go_wp2_with fail;go_roundw
    case rel=>
     refine ⟨k+1,by omega,by go_num,fun j hj=>?_,jM⟩
     rcases dB.1 hj with h|rfl
     ·exact hall j h
     ·exact hp
    case measure=>simp [intOf];omega
   ·go_wp2_with fail;go_ret
    exact ⟨bT (ED hlt (by rw [iZ hlt] at hp;exact hp) hal),jM⟩
  ·obtain rfl:k=l.length:=by omega
   go_wp2_with fail;go_ret
   exact ⟨bT (yj fun j hj=>by have:=hall j hj;rwa [iZ hj] at this),hbw⟩
theorem nT (w:World) (v:Value) (l:List Line) (g:FuncId) (lb:Array Value) (pred:Line→Bool) (eg:Enters prog g) (hv:Sl eP w w.heap.size v l)
  (hf:∀ k,k<l.length→∀ W,Below w.heap.size w W→Calls prog g (#[BL (bH l k)]++lb) W fun e W'=>e=.returned (.bool (pred (bH l k)))∧Below W.heap.size W W'):
  Calls prog 95 #[v,.func (.func g) #[] lb] w fun e w'=>e=.returned (.bool (l.any pred))∧Below w.heap.size w w':=by
 have H:=Lib.hid (TL w v l g lb pred eg hv hf);clear hf;go_enter func95,ntmps95
 go_wp2_with fail;refine H.out.mono ?_
 rintro e W1 ⟨rfl,hb1⟩;go_wp2_with fail;go_ret
 exact ⟨aY (AB pred l),hb1⟩
theorem JF (w:World) (v:Value) (l:List Hold) (g:FuncId) (lb:Array Value) (pred:Hold→Bool) (eg:Enters prog g) (hv:Sl bM w w.heap.size v l)
  (hf:∀ k,k<l.length→∀ W,Below w.heap.size w W→Calls prog g (#[kG (hold l k)]++lb) W fun e W'=>e=.returned (.bool (pred (hold l k)))∧Below W.heap.size W W'):
  Calls prog 153 #[v,.func (.func g) #[] lb] w fun e w'=>e=.returned (.int .i64 (idxOf pred l))∧Below w.heap.size w w':=by
 obtain ⟨A,c,rfl,hl,hA⟩:=hv;have eg':∀ args w,Sem.run prog (callFunc g args) w=.ok (.enter g args) w:=eg;go_enter func153,ntmps153
 go_wp2_with fail;go_loopw [5,8] (fun _ i wr=>∃ k:Nat,k≤l.length∧i=.int .i64 k∧(∀ j,j<k→pred (hold l j)=false)∧Below w.heap.size w wr) (fun _ i _=>l.length - (intOf i).toNat)
 case atStart=>exact ⟨0,aT _,rfl,fun j hj=>by omega,aj _ _⟩
 case round=>
  obtain ⟨k,hk,rfl,hall,hbw⟩:=hrel;have hal:∀ j (hj:j<k),pred (l[j]'(by omega))=false:=fun j hj=>by have:=hall j hj;rwa [bV (by omega)] at this
  by_cases hlt:k<l.length
  ·obtain ⟨hok,EX,b0,b1,b2,b3⟩:=(hA.up hbw hbw.size).hold hlt;go_wp2_with fail;refine (hf k hlt _ hbw).mono ?_
   rintro e W1 ⟨rfl,hb1⟩;have jM:=hbw.trans (hb1.mono hbw.size);cases hp:pred (hold l k)
   ·go_wp2_with fail;go_roundw
    case rel=>
     refine ⟨k+1,by omega,by go_num,fun j hj=>?_,jM⟩
     rcases dB.1 hj with h|rfl
     ·exact hall j h
     ·exact hp
    case measure=>simp [intOf];omega
   ·go_wp2_with fail;go_ret
    exact ⟨bT (ED hlt (by rw [bV hlt] at hp;exact hp) hal),jM⟩
  ·obtain rfl:k=l.length:=by omega
   go_wp2_with fail;go_ret
   exact ⟨bT (yj fun j hj=>by have:=hall j hj;rwa [bV hj] at this),hbw⟩
theorem NK (w:World) (v:Value) (l:List Hold) (g:FuncId) (lb:Array Value) (pred:Hold→Bool) (eg:Enters prog g) (hv:Sl bM w w.heap.size v l)
  (hf:∀ k,k<l.length→∀ W,Below w.heap.size w W→Calls prog g (#[kG (hold l k)]++lb) W fun e W'=>e=.returned (.bool (pred (hold l k)))∧Below W.heap.size W W'):
  Calls prog 137 #[v,.func (.func g) #[] lb] w fun e w'=>e=.returned (.bool (l.any pred))∧Below w.heap.size w w':=by
 have H:=Lib.hid (JF w v l g lb pred eg hv hf);clear hf;go_enter func137,ntmps137
 go_wp2_with fail;refine H.out.mono ?_
 rintro e W1 ⟨rfl,hb1⟩;go_wp2_with fail;go_ret
 exact ⟨aY (AB pred l),hb1⟩
theorem JE (w:World) (v:Value) (l:List Move) (g:FuncId) (lb:Array Value) (pred:Move→Bool) (eg:Enters prog g) (hv:Sl gV w w.heap.size v l)
  (hf:∀ k,k<l.length→∀ W,Below w.heap.size w W→Calls prog g (#[uK (aB l k)]++lb) W fun e W'=>e=.returned (.bool (pred (aB l k)))∧Below W.heap.size W W'):
  Calls prog 159 #[v,.func (.func g) #[] lb] w fun e w'=>e=.returned (.int .i64 (idxOf pred l))∧Below w.heap.size w w':=by
 obtain ⟨A,c,rfl,hl,hA⟩:=hv;have eg':∀ args w,Sem.run prog (callFunc g args) w=.ok (.enter g args) w:=eg;go_enter func159,ntmps159
 go_wp2_with fail;go_loopw [5,8] (fun _ i wr=>∃ k:Nat,k≤l.length∧i=.int .i64 k∧(∀ j,j<k→pred (aB l j)=false)∧Below w.heap.size w wr) (fun _ i _=>l.length - (intOf i).toNat)
 case atStart=>exact ⟨0,aT _,rfl,fun j hj=>by omega,aj _ _⟩
 case round=>
  obtain ⟨k,hk,rfl,hall,hbw⟩:=hrel;have hal:∀ j (hj:j<k),pred (l[j]'(by omega))=false:=fun j hj=>by have:=hall j hj;rwa [iM (by omega)] at this
  by_cases hlt:k<l.length
  ·obtain ⟨hok,EX,b0,b1,b2,b3⟩:=(hA.up hbw hbw.size).move hlt;go_wp2_with fail;refine (hf k hlt _ hbw).mono ?_
   rintro e W1 ⟨rfl,hb1⟩;have jM:=hbw.trans (hb1.mono hbw.size);cases hp:pred (aB l k)
   ·go_wp2_with fail;go_roundw
    case rel=>
     refine ⟨k+1,by omega,by go_num,fun j hj=>?_,jM⟩
     rcases dB.1 hj with h|rfl
     ·exact hall j h
     ·exact hp
    case measure=>simp [intOf];omega
   ·go_wp2_with fail;go_ret
    exact ⟨bT (ED hlt (by rw [iM hlt] at hp;exact hp) hal),jM⟩
  ·obtain rfl:k=l.length:=by omega
   go_wp2_with fail;go_ret
   exact ⟨bT (yj fun j hj=>by have:=hall j hj;rwa [iM hj] at this),hbw⟩
theorem NJ (w:World) (v:Value) (l:List Move) (g:FuncId) (lb:Array Value) (pred:Move→Bool) (eg:Enters prog g) (hv:Sl gV w w.heap.size v l)
  (hf:∀ k,k<l.length→∀ W,Below w.heap.size w W→Calls prog g (#[uK (aB l k)]++lb) W fun e W'=>e=.returned (.bool (pred (aB l k)))∧Below W.heap.size W W'):
  Calls prog 139 #[v,.func (.func g) #[] lb] w fun e w'=>e=.returned (.bool (l.any pred))∧Below w.heap.size w w':=by
 have H:=Lib.hid (JE w v l g lb pred eg hv hf);clear hf;go_enter func139,ntmps139
 go_wp2_with fail;refine H.out.mono ?_
 rintro e W1 ⟨rfl,hb1⟩;go_wp2_with fail;go_ret
 exact ⟨aY (AB pred l),hb1⟩
theorem Wv (w:World) (v:Value) (l:List (List Int)) (g:FuncId) (lb:Array Value) (pred:(List Int)→Bool) (eg:Enters prog g) (hv:xK dY w w.heap.size v l)
  (hf:∀ k,k<l.length→∀ W,Below w.heap.size w W→∀ u,Sl dY W W.heap.size u (rowAt l k)→Calls prog g (#[u]++lb) W fun e W'=>e=.returned (.bool (pred (rowAt l k)))∧Below W.heap.size W W'):
  Calls prog 166 #[v,.func (.func g) #[] lb] w fun e w'=>e=.returned (.int .i64 (idxOf pred l))∧Below w.heap.size w w':=by
 obtain ⟨A,c,vs,rfl,hl,hvl,hA,hrows⟩:=hv;have eg':∀ args w,Sem.run prog (callFunc g args) w=.ok (.enter g args) w:=eg;go_enter func166,ntmps166
 go_wp2_with fail;go_loopw [5,8] (fun _ i wr=>∃ k:Nat,k≤l.length∧i=.int .i64 k∧(∀ j,j<k→pred (rowAt l j)=false)∧Below w.heap.size w wr) (fun _ i _=>l.length - (intOf i).toNat)
 case atStart=>exact ⟨0,aT _,rfl,fun j hj=>by omega,aj _ _⟩
 case round=>
  obtain ⟨k,hk,rfl,hall,hbw⟩:=hrel;have hal:∀ j (hj:j<k),pred (l[j]'(by omega))=false:=fun j hj=>by have:=hall j hj;rwa [oh (by omega)] at this
  by_cases hlt:k<l.length
  ·obtain ⟨A',c',hok,EX,hcu,hsu⟩:=(show xK dY wr wr.heap.size _ l from xK.up ⟨A,c,vs,rfl,hl,hvl,hA,hrows⟩ hbw hbw.size).row hlt
   go_wp2_with fail;refine (hf k hlt _ hbw _ hsu).mono ?_
   rintro e W1 ⟨rfl,hb1⟩;have jM:=hbw.trans (hb1.mono hbw.size);cases hp:pred (rowAt l k)
   ·go_wp2_with fail;go_roundw
    case rel=>
     refine ⟨k+1,by omega,by go_num,fun j hj=>?_,jM⟩
     rcases dB.1 hj with h|rfl
     ·exact hall j h
     ·exact hp
    case measure=>simp [intOf];omega
   ·go_wp2_with fail;go_ret
    exact ⟨bT (ED hlt (by rw [oh hlt] at hp;exact hp) hal),jM⟩
  ·obtain rfl:k=l.length:=by omega
   go_wp2_with fail;go_ret
   exact ⟨bT (yj fun j hj=>by have:=hall j hj;rwa [oh hj] at this),hbw⟩
theorem OQ (w:World) (v:Value) (l:List (List Int)) (g:FuncId) (lb:Array Value) (pred:(List Int)→Bool) (eg:Enters prog g) (hv:xK dY w w.heap.size v l)
  (hf:∀ k,k<l.length→∀ W,Below w.heap.size w W→∀ u,Sl dY W W.heap.size u (rowAt l k)→Calls prog g (#[u]++lb) W fun e W'=>e=.returned (.bool (pred (rowAt l k)))∧Below W.heap.size W W'):
  Calls prog 130 #[v,.func (.func g) #[] lb] w fun e w'=>e=.returned (.bool (l.any pred))∧Below w.heap.size w w':=by
 have H:=Lib.hid (Wv w v l g lb pred eg hv hf);clear hf;go_enter func130,ntmps130
 go_wp2_with fail;refine H.out.mono ?_
 rintro e W1 ⟨rfl,hb1⟩;go_wp2_with fail;go_ret
 exact ⟨aY (AB pred l),hb1⟩
theorem QX (w:World) (v:Value) (l:List Order) (g:FuncId) (lb:Array Value) (pred:Order→Bool) (eg:Enters prog g) (hv:gI w w.heap.size v l)
  (hf:∀ k,k<l.length→∀ W,Below w.heap.size w W→∀ u,Sl eP W W.heap.size u (ay l k).lines→Calls prog g (#[.agg #[.int .i64 (ay l k).kind,u]]++lb) W fun e W'=>e=.returned (.bool (pred (ay l k)))∧Below W.heap.size W W'):
  Calls prog 131 #[v,.func (.func g) #[] lb] w fun e w'=>e=.returned (.int .i64 (idxOf pred l))∧Below w.heap.size w w':=by
 obtain ⟨A,c,vs,rfl,hl,hvl,hA,hrows⟩:=hv;have eg':∀ args w,Sem.run prog (callFunc g args) w=.ok (.enter g args) w:=eg;go_enter func131,ntmps131
 go_wp2_with fail;go_loopw [5,8] (fun _ i wr=>∃ k:Nat,k≤l.length∧i=.int .i64 k∧(∀ j,j<k→pred (ay l j)=false)∧Below w.heap.size w wr) (fun _ i _=>l.length - (intOf i).toNat)
 case atStart=>exact ⟨0,aT _,rfl,fun j hj=>by omega,aj _ _⟩
 case round=>
  obtain ⟨k,hk,rfl,hall,hbw⟩:=hrel;have hal:∀ j (hj:j<k),pred (l[j]'(by omega))=false:=fun j hj=>by have:=hall j hj;rwa [kM (by omega)] at this
  by_cases hlt:k<l.length
  ·obtain ⟨A',c',hok,EX,hc0,hcu,hsu⟩:=(show gI wr wr.heap.size _ l from gI.up ⟨A,c,vs,rfl,hl,hvl,hA,hrows⟩ hbw hbw.size).order hlt
   go_wp2_with fail;refine (hf k hlt _ hbw _ hsu).mono ?_
   rintro e W1 ⟨rfl,hb1⟩;have jM:=hbw.trans (hb1.mono hbw.size);cases hp:pred (ay l k)
   ·go_wp2_with fail;go_roundw
    case rel=>
     refine ⟨k+1,by omega,by go_num,fun j hj=>?_,jM⟩
     rcases dB.1 hj with h|rfl
     ·exact hall j h
     ·exact hp
    case measure=>simp [intOf];omega
   ·go_wp2_with fail;go_ret
    exact ⟨bT (ED hlt (by rw [kM hlt] at hp;exact hp) hal),jM⟩
  ·obtain rfl:k=l.length:=by omega
   go_wp2_with fail;go_ret
   exact ⟨bT (yj fun j hj=>by have:=hall j hj;rwa [kM hj] at this),hbw⟩
theorem MR (w:World) (v:Value) (l:List Order) (g:FuncId) (lb:Array Value) (pred:Order→Bool) (eg:Enters prog g) (hv:gI w w.heap.size v l)
  (hf:∀ k,k<l.length→∀ W,Below w.heap.size w W→∀ u,Sl eP W W.heap.size u (ay l k).lines→Calls prog g (#[.agg #[.int .i64 (ay l k).kind,u]]++lb) W fun e W'=>e=.returned (.bool (pred (ay l k)))∧Below W.heap.size W W'):
  Calls prog 76 #[v,.func (.func g) #[] lb] w fun e w'=>e=.returned (.bool (l.any pred))∧Below w.heap.size w w':=by
 have H:=Lib.hid (QX w v l g lb pred eg hv hf);clear hf;go_enter func76,ntmps76
 go_wp2_with fail;refine H.out.mono ?_
 rintro e W1 ⟨rfl,hb1⟩;go_wp2_with fail;go_ret
 exact ⟨aY (AB pred l),hb1⟩
end Wh
namespace Wh
open Go Go.RowKit Go.Shelf Go.Proofs Tryz
attribute [local go_sem] au
theorem Fz:Elem prog 3 (.int .i64 0) 1 8:=Af (by kernel_rfl)
theorem jj9 (w:World) (v:Value) (p:Plan) (hp:fZ w w.heap.size v p) (hn:p.aH.length≤100):
  Calls prog 126 #[v] w (Gives (fun u w'=>Own dY 1 3 w' w.heap.size u (oq (way p))) w):=by
 obtain ⟨_,_,rfl,⟨Ab,cb,rfl,hlb,hb⟩,⟨As,cs,rfl,hls,hs⟩⟩:=hp;have hb0:Below w.heap.size w (w.alloc (.cells #[.slice Ab p.aH.length cb,.slice As p.sizes.length cs] 25)):=(aj _ _).alloc (aA _) _;go_enter func126,ntmps126
 go_wp2_with fail;go_loopw [3,4] (fun u i wr=>∃ k:Nat,k≤p.aH.length∧i=.int .i64 k∧Own dY 1 3 wr (w.heap.size+1) u (oq (kZ p true k))∧Below w.heap.size w wr∧w.heap.size<wr.heap.size∧wr.cell? ⟨w.heap.size,0,none⟩=some (.slice Ab p.aH.length cb)) (fun _ i _=>p.aH.length - (intOf i).toNat)
 case atStart=>exact ⟨0,aT _,rfl,Own.nil,hb0,by simp,by simp⟩
 case round=>
  obtain ⟨k,hk,rfl,hown,hbw,hsz,hc0⟩:=hrel;by_cases hlt:k<p.aH.length
  ·obtain ⟨hok,EX,b0,b1,b2,b3⟩:=(hb.up hbw hbw.size).bin hlt;have hmax:k≤9223372036854775806:=by omega
   cases hf:(fK p.aH k).front
   ·go_wp2_with fail;go_roundw
    case rel=>exact ⟨k+1,by omega,by go_num,by rw [x9 (by rw [hf];decide)];exact hown,hbw,hsz,hc0⟩
    case measure=>simp [intOf];omega
   ·have hlen:(oq (kZ p true k)).length≤1000000:=by rw [sD];have:=sH p true k;omega
    go_wp2_with (at_builtin;refine aU ?_)
    unfold Hid;refine gK _ rfl (.tmp 19) (.tmp 21) 23 3 rfl (w.heap.size+1) _ 1 8 underlying23 Fz rfl (by decide) (by decide) u3 (oq (kZ p true k)) (k:Int) rfl (hown.alloc _) ⟨wr.heap.size,0,none⟩ 1 rfl rfl (cell_one_new _ _ _) (O4 _) hlen (by simp;omega) ?_
    intro v1 w1 hown1 hg1 Zn xk;have jM:Below w.heap.size w w1:=(hbw.alloc hbw.size _).trans (xk.mono (by omega))
    have hsz1:w.heap.size<w1.heap.size:=by have:=hg1.size;simp at this;omega
    have hc1:w1.cell? ⟨w.heap.size,0,none⟩=some (.slice Ab p.aH.length cb):=by
     rw [xk.cell (p:=⟨w.heap.size,0,none⟩) (by simp),KW _ _ _ hsz];exact hc0
    go_wp2_with fail;go_roundw
    case rel=>exact ⟨k+1,by omega,by go_num,by rw [wu hf,NZ];exact hown1,jM,hsz1,hc1⟩
    case measure=>simp [intOf];omega
  ·obtain rfl:k=p.aH.length:=by omega
   rw [Dq] at hown
   go_wp2_with fail;go_loopw [3,5] (fun u i wr=>∃ k:Nat,k≤p.aH.length∧i=.int .i64 k∧Own dY 1 3 wr (w.heap.size+1) u (oq (kinds p true++kZ p false k))∧Below w.heap.size w wr∧w.heap.size<wr.heap.size∧wr.cell? ⟨w.heap.size,0,none⟩=some (.slice Ab p.aH.length cb)) (fun _ i _=>p.aH.length - (intOf i).toNat)
   case atStart=>exact ⟨0,aT _,rfl,by simpa [kZ] using hown,hbw,hsz,hc0⟩
   case round=>
    clear hown hbw hsz hc0;obtain ⟨k,hk,rfl,hown,hbw,hsz,hc0⟩:=hrel;by_cases hlt:k<p.aH.length
    ·obtain ⟨hok,EX,b0,b1,b2,b3⟩:=(hb.up hbw hbw.size).bin hlt;cases hf:(fK p.aH k).front
     ·have hlen:(oq (kinds p true++kZ p false k)).length≤1000000:=by
       rw [sD,dK];have h1:=sH p false k;have h2:=sH p true p.aH.length;rw [Dq] at h2;omega
      go_wp2_with (at_builtin;refine aU ?_)
      unfold Hid;refine gK _ rfl (.tmp 37) (.tmp 39) 23 3 rfl (w.heap.size+1) _ 1 8 underlying23 Fz rfl (by decide) (by decide) u3 (oq (kinds p true++kZ p false k)) (k:Int) rfl (hown.alloc _) ⟨wr.heap.size,0,none⟩ 1 rfl rfl (cell_one_new _ _ _) (O4 _) hlen (by simp;omega) ?_
      intro v1 w1 hown1 hg1 Zn xk;have jM:Below w.heap.size w w1:=(hbw.alloc hbw.size _).trans (xk.mono (by omega))
      have hsz1:w.heap.size<w1.heap.size:=by have:=hg1.size;simp at this;omega
      have hc1:w1.cell? ⟨w.heap.size,0,none⟩=some (.slice Ab p.aH.length cb):=by
       rw [xk.cell (p:=⟨w.heap.size,0,none⟩) (by simp),KW _ _ _ hsz];exact hc0
      go_wp2_with fail;go_roundw
      case rel=>exact ⟨k+1,by omega,by go_num,by rw [wu hf,← jo,NZ];exact hown1,jM,hsz1,hc1⟩
      case measure=>simp [intOf];omega
     ·go_wp2_with fail;go_roundw
      case rel=>exact ⟨k+1,by omega,by go_num,by rw [x9 (by rw [hf];decide)];exact hown,hbw,hsz,hc0⟩
      case measure=>simp [intOf];omega
    ·obtain rfl:k=p.aH.length:=by omega
     go_wp2_with fail;go_ret
     exact ⟨_,rfl,hown.from_ (by omega),hbw⟩
end Wh
namespace Wh
open Go Go.RowKit Go.Proofs Tryz
structure SV where
 on:Value
 orders:Value
 holds:Value
 moves:Value
 inn:Value
 out:Value
 fixed:Value
 rows:List Value
 lines:List Value
def SV.cells (V:SV):List Value:=[V.on,V.orders,V.holds,V.moves,V.inn,V.out,V.fixed]
def SV.val (V:SV):Value:=.agg #[V.on,V.orders,V.holds,V.moves,V.inn,V.out,V.fixed]
def gJ:Value:=.slice none 0 0
def SV.row (V:SV) (b:Nat):Value:=V.rows.getD b gJ
def SV.line (V:SV) (o:Nat):Value:=V.lines.getD o gJ
def Gh (x:Int×Value):List Value:=[.int .i64 x.1,x.2]
def pU (l:List Order) (vs:List Value):List (Int×Value):=List.zipWith (fun o u=>(o.kind,u)) l vs
def um (vs:List Value):Prop:=vs.Pairwise fun a b=>∀ g,a.ownBlock=some g→b.ownBlock≠some g
structure aO (w:World) (base:Nat) (V:SV) (s:State):Prop where
 on:Own (fun u:Value=>[u]) 1 23 w base V.on V.rows
 rlen:V.rows.length=s.on.length
 row:∀ b,b<s.on.length→Own dY 1 3 w base (V.row b) (rowAt s.on b)
 orders:Own Gh 2 42 w base V.orders (pU s.orders V.lines)
 llen:V.lines.length=s.orders.length
 line:∀ o,o<s.orders.length→Own eP 4 44 w base (V.line o) (s.order o).lines
 holds:Own bM 4 46 w base V.holds s.holds
 moves:Own gV 4 48 w base V.moves s.moves
 inn:Own dY 1 3 w base V.inn s.inn
 out:Own dY 1 3 w base V.out s.out
 fixed:Own dY 1 3 w base V.fixed s.fixed
 apart:um (V.rows++[V.inn,V.out,V.fixed])
 oQ:um V.lines
theorem kV {l:List Order} {vs:List Value} (h:vs.length=l.length):(pU l vs).length=l.length:=by
 unfold pU;rw [XE];omega
theorem YC {l:List Order} {vs:List Value} {i:Nat} (h:vs.length=l.length) (hi:i<l.length):(pU l vs)[i]?=some ((ay l i).kind,vs.getD i gJ):=by
 unfold pU;rw [Gy,fF hi,fF (by omega),kM hi]
 simp [show i<vs.length by omega]
theorem jhj {vs:List Value} (h:um vs) {i j:Nat} (hi:i<vs.length) (hj:j<vs.length) (hne:i≠j) {g:Nat} (hg:(vs.getD i gJ).ownBlock=some g):(vs.getD j gJ).ownBlock≠some g:=by
 have e1:vs.getD i gJ=vs[i]:=by simp [hi]
 have e2:vs.getD j gJ=vs[j]:=by simp [hj]
 rw [e1] at hg
 rw [e2];rcases Nat.lt_or_gt_of_ne hne with h1|h1
 ·exact uF.1 h i j hi hj h1 g hg
 ·intro he;exact uF.1 h j i hj hi h1 g he hg
theorem EU {vs:List Value} (h:um vs) {i j:Nat} (hi:i<vs.length) (hj:j<vs.length) (hne:i≠j):(vs.getD i gJ).ownBlock=none∨(vs.getD i gJ).ownBlock≠(vs.getD j gJ).ownBlock:=by
 cases hb:(vs.getD i gJ).ownBlock with
 |none=>exact .inl rfl
 |some g=>exact .inr fun he=>jhj h hi hj hne hb he.symm
namespace aO
variable {w w':World} {base:Nat} {V:SV} {s:State}
theorem below (h:aO w base V s) (hb:Below w.heap.size w w'):aO w' base V s:=
 ⟨h.on.below hb,h.rlen,fun b hlt=>(h.row b hlt).below hb,h.orders.below hb,h.llen,fun o ho=>(h.line o ho).below hb,h.holds.below hb,h.moves.below hb,h.inn.below hb,h.out.below hb,h.fixed.below hb,h.apart,h.oQ⟩
theorem alloc (h:aO w base V s) (o:Obj):aO (w.alloc o) base V s:=h.below ((aj _ _).alloc (aA _) _)
theorem drew (h:aO w base V s):aO w.drew base V s:=h.below (aj _ _).drew
theorem from_ (h:aO w base V s) {base':Nat} (hb:base'≤base):aO w base' V s:=
 ⟨h.on.from_ hb,h.rlen,fun b hlt=>(h.row b hlt).from_ hb,h.orders.from_ hb,h.llen,fun o ho=>(h.line o ho).from_ hb,h.holds.from_ hb,h.moves.from_ hb,h.inn.from_ hb,h.out.from_ hb,h.fixed.from_ hb,h.apart,h.oQ⟩
theorem jeL (h:aO w base V s) {b:Nat} (hb:b<s.on.length):V.rows[b]?=some (V.row b):=by
 unfold SV.row;simp [show b<V.rows.length by rw [h.rlen];exact hb]
theorem jcD (h:aO w base V s) {o:Nat} (ho:o<s.orders.length):V.lines[o]?=some (V.line o):=by
 unfold SV.line;simp [show o<V.lines.length by rw [h.llen];exact ho]
theorem view (h:aO w base V s) {p:Plan} (hs:iI p s):fE w w.heap.size V.val s:=by
 have h72:=jJ hs.holds;have h8:=hs.lJ;have h4:=hs.jh;have hc:=hs.counts;have hon:=hs.ku;obtain ⟨A,c,hv,_,hA⟩:=h.on.sl (by rw [h.rlen];omega)
 obtain ⟨A1,c1,hv1,_,hA1⟩:=h.orders.sl (by rw [kV h.llen];omega)
 refine ⟨_,_,_,_,_,_,_,rfl,⟨A,c,V.rows,by rw [hv,h.rlen],by omega,h.rlen,?_,fun i x hi=>?_⟩,⟨A1,c1,V.lines,by rw [hv1,kV h.llen],by omega,h.llen,?_,fun i x hi=>?_⟩,h.holds.sl (by omega),h.moves.sl (by omega),h.inn.sl (by rw [hs.inn.1];omega),h.out.sl (by rw [hs.out.1];omega),h.fixed.sl (by rw [hs.fixed.1];omega)⟩
 ·have:V.rows.flatMap (fun u=>[u])=V.rows:=by simp
  rw [this] at hA
  exact hA
 ·have hil:i<s.on.length:=(lC.1 hi).1
  have hx:rowAt s.on i=x:=by rw [oh hil];exact (lC.1 hi).2
  exact ⟨_,h.jeL hil,by rw [← hx];exact (h.row i hil).sl (by rw [hs.rowLen (by omega)];omega)⟩
 ·have e:(s.orders.zip V.lines).flatMap (fun x=>[Value.int .i64 x.1.kind,x.2])=(pU s.orders V.lines).flatMap Gh:=by
   unfold pU Gh;rw [Xx,Lp,Lp,Lh,Lh]
  rw [e];exact hA1
 ·have hil:i<s.orders.length:=(lC.1 hi).1
  have hx:s.order i=x:=by unfold State.order;rw [kM hil];exact (lC.1 hi).2
  have:=hs.jX hil;rw [hx] at this
  exact ⟨_,h.jcD hil,by rw [← hx];exact (h.line i hil).sl (by rw [hx];omega)⟩
theorem jcI (V:SV):(V.rows++[V.inn,V.out,V.fixed]).getD (V.rows.length+0) gJ=V.inn:=by simp
theorem jcr (V:SV):(V.rows++[V.inn,V.out,V.fixed]).getD (V.rows.length+1) gJ=V.out:=by simp
theorem O8 (V:SV):(V.rows++[V.inn,V.out,V.fixed]).getD (V.rows.length+2) gJ=V.fixed:=by simp
theorem Qr (V:SV) {b:Nat} (hb:b<V.rows.length):(V.rows++[V.inn,V.out,V.fixed]).getD b gJ=V.row b:=by
 unfold SV.row;simp [jm,nZ hb]
theorem lenV (V:SV):(V.rows++[V.inn,V.out,V.fixed]).length=V.rows.length+3:=by simp
theorem je8 (h:aO w base V s) (hb:Below w.heap.size w w') {v:Value} {l:List Hold} (hv:Own bM 4 46 w' base v l):aO w' base {V with holds:=v} {s with holds:=l}:=
 let k:=h.below hb
 ⟨k.on,k.rlen,k.row,k.orders,k.llen,k.line,hv,k.moves,k.inn,k.out,k.fixed,k.apart,k.oQ⟩
theorem QG (h:aO w base V s) (hg:w.grownBy w' V.moves.ownBlock) {v:Value} {l:List Move} (hv:Own gV 4 48 w' base v l):aO w' base {V with moves:=v} {s with moves:=l}:=
 ⟨h.on.kept hg (h.on.apart h.moves (by decide)),h.rlen,fun b hb=>(h.row b hb).kept hg ((h.row b hb).apart h.moves (by decide)),h.orders.kept hg (h.orders.apart h.moves (by decide)),h.llen,fun o ho=>(h.line o ho).kept hg ((h.line o ho).apart h.moves (by decide)),
  h.holds.kept hg (h.holds.apart h.moves (by decide)),hv,h.inn.kept hg (h.inn.apart h.moves (by decide)),h.out.kept hg (h.out.apart h.moves (by decide)),h.fixed.kept hg (h.fixed.apart h.moves (by decide)),h.apart,h.oQ⟩
theorem Qc (h:aO w base V s) (hg:w.grownBy w' V.holds.ownBlock) {v:Value} {l:List Hold} (hv:Own bM 4 46 w' base v l):aO w' base {V with holds:=v} {s with holds:=l}:=
 ⟨h.on.kept hg (h.on.apart h.holds (by decide)),h.rlen,fun b hb=>(h.row b hb).kept hg ((h.row b hb).apart h.holds (by decide)),h.orders.kept hg (h.orders.apart h.holds (by decide)),h.llen,fun o ho=>(h.line o ho).kept hg ((h.line o ho).apart h.holds (by decide)),
  hv,h.moves.kept hg (h.moves.apart h.holds (by decide)),h.inn.kept hg (h.inn.apart h.holds (by decide)),h.out.kept hg (h.out.apart h.holds (by decide)),h.fixed.kept hg (h.fixed.apart h.holds (by decide)),h.apart,h.oQ⟩
theorem Nl {s:State} {o o':Nat} {x:Order} (ho:o<s.orders.length):ay (s.orders.set o x) o'=if o'=o then x else s.order o':=by
 unfold State.order ay;by_cases h:o'=o
 ·subst h;simp [ho]
 ·rw [ah h];simp [Ec h]
theorem YB {l:List Order} {vs:List Value} {o:Nat} {x:Order} (hx:x.kind=(ay l o).kind):pU (l.set o x) vs=pU l vs:=by
 unfold pU;apply yV;intro i;rw [Gy,Gy,Eh]
 by_cases h:o=i
 ·subst h;rw [ak rfl];by_cases hl:o<l.length
  ·rw [ak hl,fF hl]
   cases vs[o]? with
   |none=>rfl
   |some u=>
    simp only;rw [hx,kM hl]
  ·rw [ah hl,Ei (show l.length≤o by omega)]
 ·rw [ah h]
theorem fG (h:aO w base V s) {o k:Nat} (ho:o<s.orders.length) (hk:k<(s.order o).lines.length) {gl n c:Nat} (hv:V.line o=.slice (some ⟨gl,0,none⟩) n c) {j:Nat} (hj:j<4) {y:Line} {u:Value}
  (hy:eP y=(eP (s.line o k)).set j u):aO (w.setCell ⟨gl,k*4+j,none⟩ u) base V (s.fG o k y)∧w.grownBy (w.setCell ⟨gl,k*4+j,none⟩ u) (some gl):=by
 have hl:=h.line o ho;have hl':=hl;rw [hv] at hl'
 have hlk:s.line o k=(s.order o).lines[k]:=by unfold State.line;rw [iZ hk]
 obtain ⟨o1,hg⟩:=hl'.store (fun _=>rfl) hk hj (y:=y) (u:=u) (by rw [hy,hlk])
 have hob:(V.line o).ownBlock=some gl:=by rw [hv];rfl
 have hg':w.grownBy (w.setCell ⟨gl,k*4+j,none⟩ u) (V.line o).ownBlock:=by rw [hob];exact hg
 have hlen:(s.fG o k y).orders.length=s.orders.length:=by unfold State.fG;simp
 have hor:∀ o',(s.fG o k y).order o'=if o'=o then {s.order o with lines:=(s.order o).lines.set k y} else s.order o':=fun o'=>Nl ho
 refine ⟨⟨h.on.kept hg' (h.on.apart hl (by decide)),h.rlen,fun b hb=>(h.row b hb).kept hg' ((h.row b hb).apart hl (by decide)),?_,by rw [hlen];exact h.llen,fun o' ho'=>?_,h.holds.kept hg' (h.holds.apart hl (by decide)),
  h.moves.kept hg' (h.moves.apart hl (by decide)),h.inn.kept hg' (h.inn.apart hl (by decide)),h.out.kept hg' (h.out.apart hl (by decide)),h.fixed.kept hg' (h.fixed.apart hl (by decide)),h.apart,h.oQ⟩,hg⟩
 ·have e:pU (s.fG o k y).orders V.lines=pU s.orders V.lines:=YB rfl;rw [e];exact h.orders.kept hg' (h.orders.apart hl (by decide))
 ·rw [hlen] at ho'
  rw [hor];by_cases he:o'=o
  ·subst he;rw [ak rfl,hv];exact o1
  ·rw [ah he];exact (h.line o' ho').kept hg' (EU h.oQ (by rw [h.llen];exact ho') (by rw [h.llen];exact ho) he)
theorem setKind (h:aO w base V s) {o:Nat} (ho:o<s.orders.length) {go n c:Nat} (hv:V.orders=.slice (some ⟨go,0,none⟩) n c) (q:Int):
  aO (w.setCell ⟨go,o*2,none⟩ (.int .i64 q)) base V {s with orders:=s.orders.set o {s.order o with kind:=q}}∧w.grownBy (w.setCell ⟨go,o*2,none⟩ (.int .i64 q)) (some go):=by
 have hl:=h.orders;have hl':=hl;rw [hv] at hl'
 have hol:o<(pU s.orders V.lines).length:=by rw [kV h.llen];exact ho
 have hget:(pU s.orders V.lines)[o]=((ay s.orders o).kind,V.lines.getD o gJ):=by
  have:=YC h.llen ho;rw [fF hol] at this
  exact gB this
 obtain ⟨o1,hg⟩:=hl'.store (i:=o) (fun _=>rfl) hol (show 0<2 by omega) (y:=(q,V.lines.getD o gJ)) (u:=.int .i64 q) (by rw [hget];rfl)
 have hob:V.orders.ownBlock=some go:=by rw [hv];rfl
 rw [lZ] at o1 hg
 have hg':w.grownBy (w.setCell ⟨go,o*2,none⟩ (.int .i64 q)) V.orders.ownBlock:=by rw [hob];exact hg
 have hlen:(s.orders.set o {s.order o with kind:=q}).length=s.orders.length:=by simp
 refine ⟨⟨h.on.kept hg' (h.on.apart hl (by decide)),h.rlen,fun b hb=>(h.row b hb).kept hg' ((h.row b hb).apart hl (by decide)),?_,by rw [hlen];exact h.llen,fun o' ho'=>?_,h.holds.kept hg' (h.holds.apart hl (by decide)),
  h.moves.kept hg' (h.moves.apart hl (by decide)),h.inn.kept hg' (h.inn.apart hl (by decide)),h.out.kept hg' (h.out.apart hl (by decide)),h.fixed.kept hg' (h.fixed.apart hl (by decide)),h.apart,h.oQ⟩,hg⟩
 ·rw [hv];have e:pU (s.orders.set o {s.order o with kind:=q}) V.lines=(pU s.orders V.lines).set o (q,V.lines.getD o gJ):=by
   unfold pU;apply yV;intro i;rw [Gy,Eh,Eh,Gy]
   by_cases he:o=i
   ·subst he;have hvl:o<V.lines.length:=by rw [h.llen];exact ho
    rw [ak rfl,ak ho,ak rfl,ak (by rw [XE];omega),fF hvl]
    simp [hvl]
   ·rw [ah he,ah he]
  show Own Gh 2 42 _ base _ (pU (s.orders.set o {s.order o with kind:=q}) V.lines)
  rw [e];exact o1
 ·rw [hlen] at ho'
  have hor:State.order {s with orders:=s.orders.set o {s.order o with kind:=q}} o'=if o'=o then {s.order o with kind:=q} else s.order o':=Nl ho
  rw [hor];have k1:=(h.line o' ho').kept hg' ((h.line o' ho').apart hl (by decide))
  by_cases he:o'=o
  ·subst he;rw [ak rfl];exact k1
  ·rw [ah he];exact k1
theorem Yf (h:aO w base V s) {b g:Nat} (hb:b<s.on.length) (hgl:g<(rowAt s.on b).length) {gr n c:Nat} (hv:V.row b=.slice (some ⟨gr,0,none⟩) n c) (q:Int):
  aO (w.setCell ⟨gr,g,none⟩ (.int .i64 q)) base V {s with on:=setCell s.on b g q}∧w.grownBy (w.setCell ⟨gr,g,none⟩ (.int .i64 q)) (some gr):=by
 have hl:=h.row b hb;have hl':=hl;rw [hv] at hl'
 obtain ⟨o1,hg⟩:=hl'.store (i:=g) (fun _=>rfl) hgl (show 0<1 by omega) (y:=q) (u:=.int .i64 q) rfl
 rw [rJ,lZ] at o1 hg
 have hob:(V.row b).ownBlock=some gr:=by rw [hv];rfl
 have hg':w.grownBy (w.setCell ⟨gr,g,none⟩ (.int .i64 q)) (V.row b).ownBlock:=by rw [hob];exact hg
 have hbV:b<V.rows.length:=by rw [h.rlen];exact hb
 have key:∀ i,i<V.rows.length+3→i≠b→((V.rows++[V.inn,V.out,V.fixed]).getD i gJ).ownBlock=none∨((V.rows++[V.inn,V.out,V.fixed]).getD i gJ).ownBlock≠(V.row b).ownBlock:=fun i hi hne=>by
  have:=EU h.apart (i:=i) (j:=b) (by rw [lenV];exact hi) (by rw [lenV];omega) hne
  rw [Qr V hbV] at this
  exact this
 refine ⟨⟨h.on.kept hg' (h.on.apart hl (by decide)),by rw [iY];exact h.rlen,fun i hi=>?_,h.orders.kept hg' (h.orders.apart hl (by decide)),h.llen,fun o ho=>(h.line o ho).kept hg' ((h.line o ho).apart hl (by decide)),h.holds.kept hg' (h.holds.apart hl (by decide)),
  h.moves.kept hg' (h.moves.apart hl (by decide)),h.inn.kept hg' ?_,h.out.kept hg' ?_,h.fixed.kept hg' ?_,h.apart,h.oQ⟩,hg⟩
 ·rw [iY] at hi
  unfold Wh.setCell;rw [rowAt_set hb];by_cases he:i=b
  ·subst he;rw [ak rfl,hv];exact o1
  ·rw [ah he];have:=key i (by rw [h.rlen];omega) he
   rw [Qr V (by rw [h.rlen];exact hi)] at this
   exact (h.row i hi).kept hg' this
 ·have:=key (V.rows.length+0) (by omega) (by omega)
  rw [jcI] at this
  exact this
 ·have:=key (V.rows.length+1) (by omega) (by omega)
  rw [jcr] at this
  exact this
 ·have:=key (V.rows.length+2) (by omega) (by omega)
  rw [O8] at this
  exact this
theorem jeE (h:aO w base V s) {g:Nat} (hgl:g<s.inn.length) {gr n c:Nat} (hv:V.inn=.slice (some ⟨gr,0,none⟩) n c) (q:Int):
  aO (w.setCell ⟨gr,g,none⟩ (.int .i64 q)) base V {s with inn:=s.inn.set g q}∧w.grownBy (w.setCell ⟨gr,g,none⟩ (.int .i64 q)) (some gr):=by
 have hl:=h.inn;have hl':=hl;rw [hv] at hl'
 obtain ⟨o1,hg⟩:=hl'.store (i:=g) (fun _=>rfl) hgl (show 0<1 by omega) (y:=q) (u:=.int .i64 q) rfl
 rw [rJ,lZ] at o1 hg
 have hob:V.inn.ownBlock=some gr:=by rw [hv];rfl
 have hg':w.grownBy (w.setCell ⟨gr,g,none⟩ (.int .i64 q)) V.inn.ownBlock:=by rw [hob];exact hg
 have key:∀ i,i<V.rows.length+3→i≠V.rows.length+0→((V.rows++[V.inn,V.out,V.fixed]).getD i gJ).ownBlock=none∨((V.rows++[V.inn,V.out,V.fixed]).getD i gJ).ownBlock≠V.inn.ownBlock:=fun i hi hne=>by
  have:=EU h.apart (i:=i) (j:=V.rows.length+0) (by rw [lenV];exact hi) (by rw [lenV];omega) hne
  rw [jcI] at this
  exact this
 refine ⟨⟨h.on.kept hg' (h.on.apart hl (by decide)),h.rlen,fun i hi=>?_,h.orders.kept hg' (h.orders.apart hl (by decide)),h.llen,fun o ho=>(h.line o ho).kept hg' ((h.line o ho).apart hl (by decide)),h.holds.kept hg' (h.holds.apart hl (by decide)),
  h.moves.kept hg' (h.moves.apart hl (by decide)),?_,?_,?_,h.apart,h.oQ⟩,hg⟩
 ·have hi':i<s.on.length:=hi;have hr:=h.rlen;have:=key i (by omega) (by omega)
  rw [Qr V (by omega)] at this
  exact (h.row i hi).kept hg' this
 ·rw [hv];exact o1
 ·have:=key (V.rows.length+1) (by omega) (by omega)
  rw [jcr] at this
  exact h.out.kept hg' this
 ·have:=key (V.rows.length+2) (by omega) (by omega)
  rw [O8] at this
  exact h.fixed.kept hg' this
theorem jj0 (h:aO w base V s) {g:Nat} (hgl:g<s.out.length) {gr n c:Nat} (hv:V.out=.slice (some ⟨gr,0,none⟩) n c) (q:Int):
  aO (w.setCell ⟨gr,g,none⟩ (.int .i64 q)) base V {s with out:=s.out.set g q}∧w.grownBy (w.setCell ⟨gr,g,none⟩ (.int .i64 q)) (some gr):=by
 have hl:=h.out;have hl':=hl;rw [hv] at hl'
 obtain ⟨o1,hg⟩:=hl'.store (i:=g) (fun _=>rfl) hgl (show 0<1 by omega) (y:=q) (u:=.int .i64 q) rfl
 rw [rJ,lZ] at o1 hg
 have hob:V.out.ownBlock=some gr:=by rw [hv];rfl
 have hg':w.grownBy (w.setCell ⟨gr,g,none⟩ (.int .i64 q)) V.out.ownBlock:=by rw [hob];exact hg
 have key:∀ i,i<V.rows.length+3→i≠V.rows.length+1→((V.rows++[V.inn,V.out,V.fixed]).getD i gJ).ownBlock=none∨((V.rows++[V.inn,V.out,V.fixed]).getD i gJ).ownBlock≠V.out.ownBlock:=fun i hi hne=>by
  have:=EU h.apart (i:=i) (j:=V.rows.length+1) (by rw [lenV];exact hi) (by rw [lenV];omega) hne
  rw [jcr] at this
  exact this
 refine ⟨⟨h.on.kept hg' (h.on.apart hl (by decide)),h.rlen,fun i hi=>?_,h.orders.kept hg' (h.orders.apart hl (by decide)),h.llen,fun o ho=>(h.line o ho).kept hg' ((h.line o ho).apart hl (by decide)),h.holds.kept hg' (h.holds.apart hl (by decide)),
  h.moves.kept hg' (h.moves.apart hl (by decide)),?_,?_,?_,h.apart,h.oQ⟩,hg⟩
 ·have hi':i<s.on.length:=hi;have hr:=h.rlen;have:=key i (by omega) (by omega)
  rw [Qr V (by omega)] at this
  exact (h.row i hi).kept hg' this
 ·have:=key (V.rows.length+0) (by omega) (by omega)
  rw [jcI] at this
  exact h.inn.kept hg' this
 ·rw [hv];exact o1
 ·have:=key (V.rows.length+2) (by omega) (by omega)
  rw [O8] at this
  exact h.fixed.kept hg' this
theorem jeG (h:aO w base V s) {g:Nat} (hgl:g<s.fixed.length) {gr n c:Nat} (hv:V.fixed=.slice (some ⟨gr,0,none⟩) n c) (q:Int):
  aO (w.setCell ⟨gr,g,none⟩ (.int .i64 q)) base V {s with fixed:=s.fixed.set g q}∧w.grownBy (w.setCell ⟨gr,g,none⟩ (.int .i64 q)) (some gr):=by
 have hl:=h.fixed;have hl':=hl;rw [hv] at hl'
 obtain ⟨o1,hg⟩:=hl'.store (i:=g) (fun _=>rfl) hgl (show 0<1 by omega) (y:=q) (u:=.int .i64 q) rfl
 rw [rJ,lZ] at o1 hg
 have hob:V.fixed.ownBlock=some gr:=by rw [hv];rfl
 have hg':w.grownBy (w.setCell ⟨gr,g,none⟩ (.int .i64 q)) V.fixed.ownBlock:=by rw [hob];exact hg
 have key:∀ i,i<V.rows.length+3→i≠V.rows.length+2→((V.rows++[V.inn,V.out,V.fixed]).getD i gJ).ownBlock=none∨((V.rows++[V.inn,V.out,V.fixed]).getD i gJ).ownBlock≠V.fixed.ownBlock:=fun i hi hne=>by
  have:=EU h.apart (i:=i) (j:=V.rows.length+2) (by rw [lenV];exact hi) (by rw [lenV];omega) hne
  rw [O8] at this
  exact this
 refine ⟨⟨h.on.kept hg' (h.on.apart hl (by decide)),h.rlen,fun i hi=>?_,h.orders.kept hg' (h.orders.apart hl (by decide)),h.llen,fun o ho=>(h.line o ho).kept hg' ((h.line o ho).apart hl (by decide)),h.holds.kept hg' (h.holds.apart hl (by decide)),
  h.moves.kept hg' (h.moves.apart hl (by decide)),?_,?_,?_,h.apart,h.oQ⟩,hg⟩
 ·have hi':i<s.on.length:=hi;have hr:=h.rlen;have:=key i (by omega) (by omega)
  rw [Qr V (by omega)] at this
  exact (h.row i hi).kept hg' this
 ·have:=key (V.rows.length+0) (by omega) (by omega)
  rw [jcI] at this
  exact h.inn.kept hg' this
 ·have:=key (V.rows.length+1) (by omega) (by omega)
  rw [jcr] at this
  exact h.out.kept hg' this
 ·rw [hv];exact o1
end aO
end Wh
