/- Metrics: is there a detour, by the program's and the reference's functions. Conditions: the table is right. -/
import Derived.Test.YtnblieajjclipaaGreatGMA
set_option linter.all false
namespace Go.Proofs.YtnblieajjclipaaGreat
open Go.RowKit
structure TabAt (w:World) (u:Value) (m:List (List Int)) (n:Nat) (ad:Addr) (c:Nat):Prop where
 val:u = .slice (some ad) n c
 len:m.length=n
 pos:0<n
 le:n<=6
 cap:n<=c
 row:∀ x,x<n->∃ ax cx,w.cell? (ad.add x)=some (.slice (some ax) n cx)/\n<=cx/\∀ y,y<n->w.cell? (ax.add y)=some (.int .i64 (at2 m x y))
 num:∀ x y,x<n->y<n->0<=at2 m x y/\at2 m x y<=99
theorem LX {w:World} {u:Value} {m:List (List Int)} (hx:jr w u m) (ht:dY m=true):∃ n ad c,TabAt w u m n ad c:=by
 obtain ⟨A,c,rfl,hc1,hc2,hcell⟩:=SlO.view hx
 unfold dY at ht
 simp only [Bool.and_eq_true] at ht
 obtain ⟨⟨hr,hs⟩,htb⟩:=ht
 have hr':=gK.1 hr
 obtain ⟨ad,_,rfl,_,_⟩:=hcell 0 (by omega)
 exact ⟨m.length,ad,c,rfl,rfl,by omega,by omega,hc1,fun x hx=>rowAt hcell hs hx,fun x y hx hy=>GX htb hx hy⟩
theorem TabAt.keep {w w':World} {u:Value} {m:List (List Int)} {n:Nat} {ad:Addr} {c:Nat} (h:TabAt w u m n ad c) (hb:Below w.heap.size w w'):TabAt w' u m n ad c :=
 ⟨h.val,h.len,h.pos,h.le,h.cap,fun x hx=>by
  obtain ⟨ax,cx,h1,h2,h3⟩:=h.row x hx
  exact ⟨ax,cx,(hb.cell (block_lt h1)).trans h1,h2,fun y hy=>(hb.cell (block_lt (h3 y hy))).trans (h3 y hy)⟩,h.num⟩
def YT (v:Value) (k:Nat):Prop:=∃ A c,v = .slice A k c
set_option maxRecDepth 100000 in
set_option maxHeartbeats 4000000 in
theorem MV (w:World) (u:Value) (m:List (List Int)) (hx:jr w u m) (ht:dY m=true) :
  Calls Tryz.prog 170 #[.agg #[u]] w fun e w'=>(∃ v k,YT v k/\e = .returned (.tuple #[v,.bool (!nI m)]))/\Below w.heap.size w w':=by
 obtain ⟨n,ad,c,hT⟩:=LX hx ht
 obtain ⟨W,hW⟩:∃ W,w.alloc (.cells #[.slice (some ad) n c] 165)=W:=⟨_,rfl⟩
 have hB:Below w.heap.size w W:=by rw [← hW];exact by repeat (first | exact Below.refl _ _ | apply Below.drew | refine Below.setCell ?_ (by first | (simp;done) | (simp;omega)) _ | refine Below.alloc ?_ (by first | (simp;done) | (simp;omega)) _)
 have hT':=hT.keep hB
 have hbox:W.cell? ⟨w.heap.size,0,none⟩=some (.slice (some ad) n c):=by rw [← hW];simp [go_sem]
 obtain ⟨hv,hlen,hpos,hle,hcap,hrow,hnum⟩:=hT'
 subst hv
 have HN:=hide hlen
 have HROW:=hide hrow
 have HNUM:=hide hnum
 have HW:=hide hW
 have HB:=hide hB
 clear hx ht hT hlen hrow hnum hW hB
 go_enter Tryz.func170,Tryz.ntmps170
 go_wp2_with fail
 rw [HW.out]
 go_loopw [12] (fun i wr=>∃ k:Nat,k<=n/\i = .int .i64 k/\Qt W wr/\Hid (∀ x,x<k->kU n (fun y=>kU n (jQ m x y))=true)) (fun i _=>n-(intOf i).toNat)
 case atStart=>exact ⟨0,Nat.zero_le _,rfl,Qt.refl _,fun x h=>by omega⟩
 case round =>
  obtain ⟨x,hx,rfl,⟨qx,rfl⟩,hGx⟩:=hrel
  by_cases hlx:x<n
  ·obtain ⟨ax,cx,f1,f2,f3⟩:=HROW.out x hlx
   have HF3:=hide f3
   clear f3
   go_wp2
   go_loopw [19] (fun i wr=>∃ k:Nat,k<=n/\i = .int .i64 k/\Qt W wr/\Hid (∀ y,y<k->kU n (jQ m x y)=true)) (fun i _=>n-(intOf i).toNat)
   case atStart=>exact ⟨0,Nat.zero_le _,rfl,⟨_,rfl⟩,fun x h=>by omega⟩
   case round =>
    obtain ⟨y,hy,rfl,⟨qy,rfl⟩,hGy⟩:=hrel
    by_cases hly:y<n
    ·obtain ⟨ay,cy,g1,g2,g3⟩:=HROW.out y hly
     have HG3:=hide g3
     have c1:=HF3.out y hly
     have n1:=HNUM.out x y hlx hly
     obtain ⟨d,hd⟩:∃ d,at2 m x y=d:=⟨_,rfl⟩
     rw [hd] at c1 n1
     have HD:=hide hd
     obtain ⟨n11,n12⟩:=n1
     clear g3 hd
     go_wp2
     go_loopw [27] (fun i wr=>∃ k:Nat,k<=n/\i = .int .i64 k/\Qt W wr/\Hid (∀ z,z<k->jQ m x y z=true)) (fun i _=>n-(intOf i).toNat)
     case atStart=>exact ⟨0,Nat.zero_le _,rfl,⟨_,rfl⟩,fun x h=>by omega⟩
     case round =>
      obtain ⟨z,hz,rfl,⟨qz,rfl⟩,hGz⟩:=hrel
      by_cases hlz:z<n
      ·have c2:=HF3.out z hlz
       have c3:=HG3.out z hlz
       have n2:=HNUM.out x z hlx hlz
       have n3:=HNUM.out y z hly hlz
       obtain ⟨a,ha⟩:∃ a,at2 m x z=a:=⟨_,rfl⟩
       obtain ⟨b,hb⟩:∃ b,at2 m y z=b:=⟨_,rfl⟩
       rw [ha] at c2 n2
       rw [hb] at c3 n3
       obtain ⟨n21,n22⟩:=n2
       obtain ⟨n31,n32⟩:=n3
       have HK:Hid (jQ m x y z=decide (a<=d+b)):=by show jQ m x y z=_;unfold jQ;rw [ha,hb,HD.out]
       clear ha hb
       by_cases q:d+b<a
       ·have HF:Hid (nI m=false):=KZ (by rw [HN.out];exact hlx) (by rw [HN.out];exact hly) (by rw [HN.out];exact hlz) (by rw [HK.out];exact decide_eq_false (by omega))
        go_wp2
        go_quiet (fail)
        go_wp2
        go_ret2
        exact ⟨⟨_,3,⟨_,_,rfl⟩,(by rw [HF.out];rfl)⟩,HB.out.trans (by repeat (first | exact Below.refl _ _ | apply Below.drew | apply below_drewN | refine Below.alloc ?_ (by simpa using HB.out.size) _))⟩
       ·have q':a<=d+b:=by omega
        have HK':Hid (jQ m x y z=true):=by show jQ m x y z=true;rw [HK.out];exact decide_eq_true q'
        go_wp2
        go_quiet (fail)
        go_wp2
        go_roundw
        case rel=>exact ⟨z+1,by omega,by go_num,by first | exact ⟨_,rfl⟩ | exact ⟨_,World.drewN_drewN _ _ _⟩,dA hGz.out HK'.out⟩
        case measure=>simp [intOf];omega
      ·go_wp2
       go_roundw
       case rel =>
        obtain rfl:z=n:=by omega
        first
        | exact ⟨y+1,by omega,by go_num,⟨_,rfl⟩,dA hGy.out (bF.2 hGz.out)⟩
        | ((repeat apply Exists.intro);exact ⟨⟨y+1,by omega,by go_num,⟨_,rfl⟩,dA hGy.out (bF.2 hGz.out)⟩,by repeat (first | rfl | constructor)⟩)
       case measure=>simp [intOf];omega
    ·go_wp2
     go_roundw
     case rel =>
      obtain rfl:y=n:=by omega
      first
      | exact ⟨x+1,by omega,by go_num,⟨_,rfl⟩,dA hGx.out (bF.2 hGy.out)⟩
      | ((repeat apply Exists.intro);exact ⟨⟨x+1,by omega,by go_num,⟨_,rfl⟩,dA hGx.out (bF.2 hGy.out)⟩,by repeat (first | rfl | constructor)⟩)
     case measure=>simp [intOf];omega
  ·go_wp2
   go_ret2
   obtain rfl:x=n:=by omega
   have e:nI m=true:=by
    unfold nI
    rw [HN.out]
    exact bF.2 hGx.out
   exact ⟨⟨_,0,⟨_,_,rfl⟩,(by rw [e];rfl)⟩,below_drewN HB.out _⟩
set_option maxRecDepth 100000 in
set_option maxHeartbeats 4000000 in
theorem Il (w:World) (u:Value) (m:List (List Int)) (hx:jr w u m) (ht:dY m=true) :
  Calls Tryz.prog 188 #[.agg #[u]] w fun e w'=>(∃ v k,YT v k/\(e = .returned v/\(k=0↔nI m=true)))/\Below w.heap.size w w':=by
 obtain ⟨n,ad,c,hT⟩:=LX hx ht
 obtain ⟨W,hW⟩:∃ W,w.alloc (.cells #[.slice (some ad) n c] 165)=W:=⟨_,rfl⟩
 have hB:Below w.heap.size w W:=by rw [← hW];exact by repeat (first | exact Below.refl _ _ | apply Below.drew | refine Below.setCell ?_ (by first | (simp;done) | (simp;omega)) _ | refine Below.alloc ?_ (by first | (simp;done) | (simp;omega)) _)
 have hT':=hT.keep hB
 have hbox:W.cell? ⟨w.heap.size,0,none⟩=some (.slice (some ad) n c):=by rw [← hW];simp [go_sem]
 obtain ⟨hv,hlen,hpos,hle,hcap,hrow,hnum⟩:=hT'
 subst hv
 have HN:=hide hlen
 have HROW:=hide hrow
 have HNUM:=hide hnum
 have HW:=hide hW
 have HB:=hide hB
 clear hx ht hT hlen hrow hnum hW hB
 go_enter Tryz.func188,Tryz.ntmps188
 go_wp2_with fail
 rw [HW.out]
 go_loopw [4] (fun i wr=>∃ k:Nat,k<=n/\i = .int .i64 k/\Qt W wr/\Hid (∀ x,x<k->kU n (fun y=>kU n (jQ m x y))=true)) (fun i _=>n-(intOf i).toNat)
 case atStart=>exact ⟨0,Nat.zero_le _,rfl,Qt.refl _,fun x h=>by omega⟩
 case round =>
  obtain ⟨x,hx,rfl,⟨qx,rfl⟩,hGx⟩:=hrel
  by_cases hlx:x<n
  ·obtain ⟨ax,cx,f1,f2,f3⟩:=HROW.out x hlx
   have HF3:=hide f3
   clear f3
   go_wp2
   go_loopw [5] (fun i wr=>∃ k:Nat,k<=n/\i = .int .i64 k/\Qt W wr/\Hid (∀ y,y<k->kU n (jQ m x y)=true)) (fun i _=>n-(intOf i).toNat)
   case atStart=>exact ⟨0,Nat.zero_le _,rfl,⟨_,rfl⟩,fun x h=>by omega⟩
   case round =>
    obtain ⟨y,hy,rfl,⟨qy,rfl⟩,hGy⟩:=hrel
    by_cases hly:y<n
    ·obtain ⟨ay,cy,g1,g2,g3⟩:=HROW.out y hly
     have HG3:=hide g3
     have c1:=HF3.out y hly
     have n1:=HNUM.out x y hlx hly
     obtain ⟨d,hd⟩:∃ d,at2 m x y=d:=⟨_,rfl⟩
     rw [hd] at c1 n1
     have HD:=hide hd
     obtain ⟨n11,n12⟩:=n1
     clear g3 hd
     go_wp2
     go_loopw [6] (fun i wr=>∃ k:Nat,k<=n/\i = .int .i64 k/\Qt W wr/\Hid (∀ z,z<k->jQ m x y z=true)) (fun i _=>n-(intOf i).toNat)
     case atStart=>exact ⟨0,Nat.zero_le _,rfl,⟨_,rfl⟩,fun x h=>by omega⟩
     case round =>
      obtain ⟨z,hz,rfl,⟨qz,rfl⟩,hGz⟩:=hrel
      by_cases hlz:z<n
      ·have c2:=HF3.out z hlz
       have c3:=HG3.out z hlz
       have n2:=HNUM.out x z hlx hlz
       have n3:=HNUM.out y z hly hlz
       obtain ⟨a,ha⟩:∃ a,at2 m x z=a:=⟨_,rfl⟩
       obtain ⟨b,hb⟩:∃ b,at2 m y z=b:=⟨_,rfl⟩
       rw [ha] at c2 n2
       rw [hb] at c3 n3
       obtain ⟨n21,n22⟩:=n2
       obtain ⟨n31,n32⟩:=n3
       have HK:Hid (jQ m x y z=decide (a<=d+b)):=by show jQ m x y z=_;unfold jQ;rw [ha,hb,HD.out]
       clear ha hb
       by_cases q:d+b<a
       ·have HF:Hid (nI m=false):=KZ (by rw [HN.out];exact hlx) (by rw [HN.out];exact hly) (by rw [HN.out];exact hlz) (by rw [HK.out];exact decide_eq_false (by omega))
        go_wp2
        go_quiet (fail)
        go_wp2
        go_ret
        exact ⟨⟨_,3,⟨_,_,rfl⟩,⟨rfl,by rw [HF.out];simp⟩⟩,HB.out.trans (by repeat (first | exact Below.refl _ _ | apply Below.drew | apply below_drewN | refine Below.alloc ?_ (by simpa using HB.out.size) _))⟩
       ·have q':a<=d+b:=by omega
        have HK':Hid (jQ m x y z=true):=by show jQ m x y z=true;rw [HK.out];exact decide_eq_true q'
        go_wp2
        go_quiet (fail)
        go_wp2
        go_roundw
        case rel=>exact ⟨z+1,by omega,by go_num,by first | exact ⟨_,rfl⟩ | exact ⟨_,World.drewN_drewN _ _ _⟩,dA hGz.out HK'.out⟩
        case measure=>simp [intOf];omega
      ·go_wp2
       go_roundw
       case rel =>
        obtain rfl:z=n:=by omega
        first
        | exact ⟨y+1,by omega,by go_num,⟨_,rfl⟩,dA hGy.out (bF.2 hGz.out)⟩
        | ((repeat apply Exists.intro);exact ⟨⟨y+1,by omega,by go_num,⟨_,rfl⟩,dA hGy.out (bF.2 hGz.out)⟩,by repeat (first | rfl | constructor)⟩)
       case measure=>simp [intOf];omega
    ·go_wp2
     go_roundw
     case rel =>
      obtain rfl:y=n:=by omega
      first
      | exact ⟨x+1,by omega,by go_num,⟨_,rfl⟩,dA hGx.out (bF.2 hGy.out)⟩
      | ((repeat apply Exists.intro);exact ⟨⟨x+1,by omega,by go_num,⟨_,rfl⟩,dA hGx.out (bF.2 hGy.out)⟩,by repeat (first | rfl | constructor)⟩)
     case measure=>simp [intOf];omega
  ·go_wp2
   go_ret
   obtain rfl:x=n:=by omega
   have e:nI m=true:=by
    unfold nI
    rw [HN.out]
    exact bF.2 hGx.out
   exact ⟨⟨_,0,⟨_,_,rfl⟩,⟨rfl,by rw [e];simp⟩⟩,HB.out.trans (by repeat (first | exact Below.refl _ _ | apply Below.drew | apply below_drewN | refine Below.alloc ?_ (by simpa using HB.out.size) _))⟩
set_option maxRecDepth 100000 in
set_option maxHeartbeats 4000000 in
theorem KI (w:World) (u:Value) (m:List (List Int)) (hx:jr w u m) :
  Calls Tryz.prog 187 #[.agg #[u],.bool false] w fun e w'=>e = .returned (.bool (dY m))/\Below w.heap.size w w':=by
 have hlen:=SlO.len hx
 obtain ⟨A,c,rfl,hc1,hc2,hcell⟩:=SlO.view hx
 cases hr:rng m.length 1 6
 ·have HR:=hide hr
  have HP:Hid (dY m=false):=by show dY m=false;unfold dY;rw [hr];rfl
  clear hx hr hcell
  rw [HP.out]
  go_enter Tryz.func187,Tryz.ntmps187
  go_wp2_with (go_at_call 70;refine (dX _ _ _ _).mono ?_;rintro e w' ⟨rfl,rfl⟩;rw [HR.out];dsimp only)
  go_ret
  exact ⟨rfl,by repeat (first | exact Below.refl _ _ | apply Below.drew | refine Below.setCell ?_ (by first | (simp;done) | (simp;omega)) _ | refine Below.alloc ?_ (by first | (simp;done) | (simp;omega)) _)⟩
 ·have hm0:0<m.length:=by have:=gK.1 hr;omega
  have HR:=hide hr
  obtain ⟨ad,_,rfl,_,_⟩:=hcell 0 hm0
  obtain ⟨n,hn⟩:∃ n,m.length=n:=⟨_,rfl⟩
  have hn6:n<=6:=by have:=gK.1 hr;omega
  have HT:Hid (dY m=(sqB m && yX m)):=by show dY m=_;unfold dY;rw [hr];simp
  have HROW:=hide fun (hs:sqB m=true) x (hx:x<m.length)=>rowAt hcell hs hx
  obtain ⟨W,hW⟩:∃ W,w.alloc (.cells #[.slice (some ad) n c] 165)=W:=⟨_,rfl⟩
  have hB:Below w.heap.size w W:=by rw [← hW];exact by repeat (first | exact Below.refl _ _ | apply Below.drew | refine Below.setCell ?_ (by first | (simp;done) | (simp;omega)) _ | refine Below.alloc ?_ (by first | (simp;done) | (simp;omega)) _)
  have hbox:W.cell? ⟨w.heap.size,0,none⟩=some (.slice (some ad) n c):=by rw [← hW];simp [go_sem]
  have HCELL:Hid (∀ (j:Nat) (hj:j<m.length),∃ v,W.cell? (ad.add j)=some v/\SlI W v m[j]):=fun j hj=>by
   obtain ⟨ad',v,e,h1,h2⟩:=hcell j hj
   cases e
   exact ⟨v,(hB.cell (block_lt h1)).trans h1,h2.below hB⟩
  rw [hn] at HR HROW hm0 hc1
  have HN:=hide hn
  have HW:=hide hW
  have HB:=hide hB
  rw [hn]
  clear hx hr hcell hlen hn hW hB
  go_enter Tryz.func187,Tryz.ntmps187
  go_wp2_with fail
  refine (dX _ _ _ _).mono ?_
  rintro e w' ⟨rfl,rfl⟩
  rw [HR.out]
  dsimp only
  go_wp2_with fail
  rw [HW.out]
  go_loop [6] (fun i=>∃ k:Nat,k<=n/\i = .int .i64 k/\Hid (∀ x (hx:x<m.length),x<k->m[x].length=m.length)) (fun i=>n-(intOf i).toNat)
  case atStart=>exact ⟨0,Nat.zero_le _,rfl,fun x _ h=>by omega⟩
  case round =>
   obtain ⟨k,hk,rfl,hL⟩:=hrel
   by_cases hlt:k<n
   ·have hkm:k<m.length:=by rw [HN.out];exact hlt
    obtain ⟨v,h1,h2⟩:=HCELL.out k hkm
    obtain ⟨Ak,ck,rfl,j1,j2,j3⟩:=SlI.view h2
    have hlk:=SlI.len h2
    clear j3 h2
    by_cases hl:m[k].length=n
    ·have HL2:Hid (m[k].length=m.length):=by show m[k].length=m.length;rw [HN.out];exact hl
     rw [hl] at h1
     have hb:((n:Int) != (n:Int))=false:=by simp
     clear hl hlk j1
     go_wp2
     go_round
     case rel =>
      refine ⟨k+1,by omega,by go_num,fun x hx h =>?_⟩
      rcases Nat.lt_or_ge x k with h3 | h3
      ·exact hL.out x hx h3
      ·have:x=k:=by omega
       subst this
       exact HL2.out
     case measure=>simp [intOf];omega
    ·have hb:((m[k].length:Int) != (n:Int))=true:=by simp;omega
     have HF:Hid ((sqB m && yX m)=false):=by
      show (sqB m && yX m)=false
      rw [acu hkm (by rw [HN.out];exact hl)]
      rfl
     clear hl
     go_wp2
     go_ret
     exact ⟨by rw [HT.out,HF.out];rfl,HB.out⟩
   ·have HS:Hid (sqB m=true):=BM.2 fun r hr=>by
     obtain ⟨j,hj,rfl⟩:=List.getElem_of_mem hr
     exact hL.out j hj (by rw [HN.out] at hj;omega)
    have HROW2:Hid (∀ x,x<n->∃ ax cx,W.cell? (ad.add x)=some (.slice (some ax) n cx)/\n<=cx/\∀ y,y<n->W.cell? (ax.add y)=some (.int .i64 (at2 m x y))):=fun x hx=>by
     have h:=HROW.out HS.out x hx
     obtain ⟨ax,cx,h1,h2,h3⟩:=h
     exact ⟨ax,cx,(HB.out.cell (block_lt h1)).trans h1,h2,fun y hy=>(HB.out.cell (block_lt (h3 y hy))).trans (h3 y hy)⟩
    go_wp2
    go_loop [7] (fun i=>∃ k:Nat,k<=n/\i = .int .i64 k/\Hid (∀ x,x<k->kU n (fU m x)=true)) (fun i=>n-(intOf i).toNat)
    case atStart=>exact ⟨0,Nat.zero_le _,rfl,fun x h=>by omega⟩
    case round =>
     obtain ⟨x,hxn,rfl,hG⟩:=hrel
     by_cases hlx:x<n
     ·obtain ⟨ax,cx,f1,f2,f3⟩:=HROW2.out x hlx
      have HF3:=hide f3
      clear f3
      go_wp2
      go_loop [8] (fun i=>∃ j:Nat,j<=n/\i = .int .i64 j/\Hid (∀ y,y<j->fU m x y=true)) (fun i=>n-(intOf i).toNat)
      case atStart=>exact ⟨0,Nat.zero_le _,rfl,fun y h=>by omega⟩
      case round =>
       obtain ⟨j,hj,rfl,hJ⟩:=hrel
       by_cases hlj:j<n
       ·obtain ⟨ay,cy,g1,g2,g3⟩:=HROW2.out j hlj
        have c1:=HF3.out j hlj
        have c2:=g3 x hlx
        obtain ⟨d,hd⟩:∃ d,at2 m x j=d:=⟨_,rfl⟩
        obtain ⟨d',hd'⟩:∃ d',at2 m j x=d':=⟨_,rfl⟩
        rw [hd] at c1
        rw [hd'] at c2
        have HOK:Hid (fU m x j=decide (d=d'/\(x=j->d=0)/\(x≠j->1<=d/\d<=99))):=by show fU m x j=_;unfold fU;rw [hd,hd']
        have HBAD:Hid (¬ (d=d'/\(x=j->d=0)/\(x≠j->1<=d/\d<=99))->(sqB m && yX m)=false):=fun h=>by
         rw [QT (x:=x) (y:=j) (by rw [HN.out];exact hlx) (by rw [HN.out];exact hlj) (by rw [HOK.out];exact decide_eq_false h),Bool.and_false]
        clear g3 hd hd'
        by_cases q2:d=d'
        ·have r2:(d != d')=false:=by simp [q2]
         have Q2:=hide q2
         clear q2
         by_cases q1:x=j
         ·have r1:((x:Int) == (j:Int))=true:=by simp [q1]
          have r1':((x:Int) != (j:Int))=false:=by simp [q1]
          by_cases q4:d=0
          ·have r0:(d != 0)=false:=by simp [q4]
           have HK:Hid (fU m x j=true):=by
            show fU m x j=true
            rw [HOK.out]
            exact decide_eq_true ⟨Q2.out,fun _=>q4,fun h=>absurd q1 h⟩
           clear q1 q4
           go_wp2
           go_round
           case rel=>exact ⟨j+1,by omega,by go_num,dA hJ.out HK.out⟩
           case measure=>simp [intOf];omega
          ·have r0:(d != 0)=true:=by simp [q4]
           have HB':=hide (HBAD.out fun h=>q4 (h.2.1 q1))
           clear q1
           go_wp2
           go_ret
           exact ⟨by rw [HT.out,HB'.out];rfl,HB.out⟩
         ·have r1:((x:Int) == (j:Int))=false:=by simp;omega
          have r1':((x:Int) != (j:Int))=true:=by simp;omega
          cases q4:rng d 1 99
          ·have HB':=hide (HBAD.out fun h=>by have:=h.2.2 q1;rw [uG this.1 this.2] at q4;cases q4)
           have HQ:=hide q4
           clear q1 q4
           go_wp2_with (go_at_call 70;refine (dX _ _ _ _).mono ?_;rintro e w' ⟨rfl,rfl⟩;rw [HQ.out];dsimp only)
           go_ret
           exact ⟨by rw [HT.out,HB'.out];rfl,HB.out⟩
          ·have HK:Hid (fU m x j=true):=by
            show fU m x j=true
            rw [HOK.out]
            exact decide_eq_true ⟨Q2.out,fun h=>absurd h q1,fun _=>gK.1 q4⟩
           have HQ:=hide q4
           clear q1 q4
           go_wp2_with (go_at_call 70;refine (dX _ _ _ _).mono ?_;rintro e w' ⟨rfl,rfl⟩;rw [HQ.out];dsimp only)
           go_round
           case rel=>exact ⟨j+1,by omega,by go_num,dA hJ.out HK.out⟩
           case measure=>simp [intOf];omega
        ·have r2:(d != d')=true:=by simp [q2]
         have HB':=hide (HBAD.out fun h=>q2 h.1)
         go_wp2
         go_ret
         exact ⟨by rw [HT.out,HB'.out];rfl,HB.out⟩
       ·go_wp2
        go_round
        case rel =>
         obtain rfl:j=n:=by omega
         first
         | exact ⟨x+1,by omega,by go_num,dA hG.out (bF.2 hJ.out)⟩
         | ((repeat apply Exists.intro);exact ⟨⟨x+1,by omega,by go_num,dA hG.out (bF.2 hJ.out)⟩,by repeat (first | rfl | constructor)⟩)
        case measure=>simp [intOf];omega
     ·go_wp2
      go_ret
      obtain rfl:x=n:=by omega
      have e:yX m=true:=by
       unfold yX
       rw [HN.out]
       exact bF.2 hG.out
      exact ⟨by rw [HT.out,e,HS.out];rfl,HB.out⟩
end Go.Proofs.YtnblieajjclipaaGreat
