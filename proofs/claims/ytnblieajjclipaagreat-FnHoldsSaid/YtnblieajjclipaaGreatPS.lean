/- Problems: is a table of moves a metric, and are moves and serving costs a Problem, by the program's and the reference's functions. Conditions: none. -/
import Derived.Test.YtnblieajjclipaaGreatPT
set_option linter.all false
namespace Go.Proofs.YtnblieajjclipaaGreat
open Go.RowKit
def lM (m:List (List Int)):Bool:=dY m && nI m
def iY (n:Nat) (row:List Int):Bool:=(row.length == n) && allIn (-1) 20 row && row.any fun c=>decide (0<=c)
def bg (m s:List (List Int)):Bool:=rng m.length 1 4 && lM m && rng s.length 1 4 && s.all (iY m.length)
theorem Ie (w:World) (u:Value) (m:List (List Int)) (hx:jr w u m) :
  Calls Tryz.prog 138 #[.agg #[u]] w fun e w'=>e = .returned (.bool (lM m))/\Below w.heap.size w w':=by
 obtain ⟨A,c,e0,_,_,_⟩:=SlO.view hx
 have hb0:Below w.heap.size w (w.alloc (.cells #[u] 165)):=by repeat (first | exact Below.refl _ _ | apply Below.drew | refine Below.setCell ?_ (by first | (simp;done) | (simp;omega)) _ | refine Below.alloc ?_ (by first | (simp;done) | (simp;omega)) _)
 have H1:=hide (Kw (w.alloc (.cells #[u] 165)) u m (jr.below hx hb0))
 have H2:=hide fun (ht:dY m=true) W (hb:Below w.heap.size w W)=>MV W u m (jr.below hx hb) ht
 subst e0
 clear hx
 cases ht:dY m
 ·have HT:=hide ht
  have HP:Hid (lM m=false):=by show lM m=false;unfold lM;rw [ht];rfl
  clear ht
  rw [HP.out]
  go_enter Tryz.func138,Tryz.ntmps138
  go_wp2_with ((with_reducible refine H1.out.mono ?_);rintro e w2 ⟨rfl,hb2⟩;rw [HT.out];dsimp only)
  go_ret
  exact ⟨rfl,hb0.trans (hb2.mono (by simp))⟩
 ·have HT:=hide ht
  have HP:Hid (lM m=nI m):=by show lM m=_;unfold lM;rw [ht];rfl
  clear ht
  rw [HP.out]
  go_enter Tryz.func138,Tryz.ntmps138
  go_wp2_with fail
  refine H1.out.mono ?_
  rintro e w2 ⟨rfl,hb2⟩
  rw [HT.out]
  have B2:Below w.heap.size w w2:=hb0.trans (hb2.mono (by simp))
  have hc:w2.cell? ⟨w.heap.size,0,none⟩=some (.slice A m.length c):=aY hb2 (by simp [go_sem])
  dsimp only
  go_wp2_with fail
  refine (H2.out HT.out w2 B2).mono ?_
  rintro e w3 ⟨⟨v,k,⟨A3,c3,rfl⟩,rfl⟩,hb3⟩
  dsimp only
  go_wp2
  go_ret
  exact ⟨by simp,B2.trans (hb3.mono B2.size)⟩
theorem Nz (w:World) (u:Value) (m:List (List Int)) (hx:jr w u m) :
  Calls Tryz.prog 175 #[.agg #[u]] w fun e w'=>e = .returned (.bool (lM m))/\Below w.heap.size w w':=by
 obtain ⟨A,c,e0,_,_,_⟩:=SlO.view hx
 have hb0:Below w.heap.size w (w.alloc (.cells #[u] 165)):=by repeat (first | exact Below.refl _ _ | apply Below.drew | refine Below.setCell ?_ (by first | (simp;done) | (simp;omega)) _ | refine Below.alloc ?_ (by first | (simp;done) | (simp;omega)) _)
 have H1:=hide (KI (w.alloc (.cells #[u] 165)) u m (jr.below hx hb0))
 have H2:=hide fun (ht:dY m=true) W (hb:Below w.heap.size w W)=>Il W u m (jr.below hx hb) ht
 subst e0
 clear hx
 cases ht:dY m
 ·have HT:=hide ht
  have HP:Hid (lM m=false):=by show lM m=false;unfold lM;rw [ht];rfl
  clear ht
  rw [HP.out]
  go_enter Tryz.func175,Tryz.ntmps175
  go_wp2_with ((with_reducible refine H1.out.mono ?_);rintro e w2 ⟨rfl,hb2⟩;rw [HT.out];dsimp only)
  go_ret
  exact ⟨rfl,hb0.trans (hb2.mono (by simp))⟩
 ·have HT:=hide ht
  have HP:Hid (lM m=nI m):=by show lM m=_;unfold lM;rw [ht];rfl
  clear ht
  rw [HP.out]
  go_enter Tryz.func175,Tryz.ntmps175
  go_wp2_with fail
  refine H1.out.mono ?_
  rintro e w2 ⟨rfl,hb2⟩
  rw [HT.out]
  have B2:Below w.heap.size w w2:=hb0.trans (hb2.mono (by simp))
  have hc:w2.cell? ⟨w.heap.size,0,none⟩=some (.slice A m.length c):=aY hb2 (by simp [go_sem])
  dsimp only
  go_wp2_with fail
  refine (H2.out HT.out w2 B2).mono ?_
  rintro e w3 ⟨⟨v,k,⟨A3,c3,rfl⟩,rfl,hk⟩,hb3⟩
  have HK:Hid (((k:Int) == 0)=nI m):=by
   show ((k:Int) == 0)=nI m
   cases hd:nI m
   ·have:k≠0:=fun h=>by rw [hk.1 h] at hd;cases hd
    simp
    omega
   ·have:=hk.2 hd
    simp [this]
  clear hk
  dsimp only
  go_wp2
  go_ret
  exact ⟨by rw [← HK.out];rfl,B2.trans (hb3.mono B2.size)⟩
theorem vO:Enters Tryz.prog 142:=fun _ _=>by kernel_rfl
theorem xO:Enters Tryz.prog 140:=fun _ _=>by kernel_rfl
theorem A8 (w:World) (x:Int) :
  Calls Tryz.prog 142 (#[.int .i64 x]++#[]) w fun e w'=>e = .returned (.bool (!rng x (-1) 20))/\Below w.heap.size w w':=by
 simp only [List.push_toArray,List.append_toArray,List.cons_append,List.nil_append,List.append_nil]
 go_enter Tryz.func142,Tryz.ntmps142
 go_wp2_with (go_at_call 128;refine (eX _ _ _ _).mono ?_;rintro e w' ⟨rfl,rfl⟩;dsimp only)
 go_ret
 exact ⟨rfl,Below.refl _ _⟩
theorem Md (x:Int) (xs:List Int):(x::xs).any (fun c=>decide (0<=c))=decide (0<=greatest x xs):=by
 induction xs generalizing x with
 | nil=>simp only [greatest,List.any_cons,List.any_nil,Bool.or_false,List.foldl_nil];exact decide_eq_decide.2 Iff.rfl
 | cons y xs ih =>
  have h:=ih (max x y)
  show _=decide (0<=greatest (max x y) xs)
  rw [← h]
  simp only [List.any_cons]
  by_cases h1:0<=x<;>by_cases h2:0<=y<;>simp [h1,h2]<;>omega
theorem Dv (w:World) (a:Addr) (v:Value) (r:List Int) (n:Nat) (hn0:0<n) (hn:n<=9223372036854775807) (hc:w.cell? a=some (.int .i64 n)) (hv:SlI w v r) :
  Calls Tryz.prog 140 (#[v]++#[.pointer (some a)]) w fun e w'=>e = .returned (.bool (!iY n r))/\Below w.heap.size w w':=by
 have hlv:=hv.len
 have HC:=hide (nV w v r 142 #[] (fun x => !rng x (-1) 20) vO hv (fun W hW j hj v' hv'=>by subst hv';exact A8 W _))
 have HA:Hid ((r.any fun x => !rng x (-1) 20) = !allIn (-1) 20 r):=by
  show _ = !allIn (-1) 20 r
  rw [← AB]
  simp
 rw [HA.out] at HC
 have HM:=hide fun W (hb:Below w.heap.size w W) x xs (hr:r=x::xs)=>I9 W v x xs (by rw [← hr];exact hv.below hb)
 obtain ⟨A,c,rfl,_,_,_⟩:=hv.view
 simp only [List.push_toArray,List.append_toArray,List.cons_append,List.nil_append]
 by_cases h:r.length=n
 ·have hb:((r.length:Int) != (n:Int))=false:=by simp [h]
  cases ha:allIn (-1) 20 r
  ·have HB:=hide ha
   have HP:Hid ((!iY n r)=true):=by show (!iY n r)=true;simp [iY,ha]
   clear h hv ha
   rw [HP.out]
   go_enter Tryz.func140,Tryz.ntmps140
   go_wp2_with ((with_reducible refine HC.out.mono ?_);rintro e w2 ⟨rfl,hb2⟩;rw [HB.out];dsimp only)
   go_ret
   exact ⟨rfl,hb2⟩
  ·have HB:=hide ha
   obtain ⟨x,xs,hr⟩:∃ x xs,r=x::xs:=by
    cases r with
    | nil=>simp at h;omega
    | cons x xs=>exact ⟨x,xs,rfl⟩
   have HP:Hid ((!iY n r)=decide (greatest x xs<0)):=by
    show (!iY n r)=_
    unfold iY
    rw [h,ha,hr,Md,Bool.eq_iff_iff]
    simp
   have HR:=hide hr
   clear h hv ha hr
   rw [HP.out]
   go_enter Tryz.func140,Tryz.ntmps140
   go_wp2_with fail
   refine HC.out.mono ?_
   rintro e w2 ⟨rfl,hb2⟩
   rw [HB.out]
   dsimp only
   go_wp2_with fail
   refine (HM.out w2 hb2 x xs HR.out).mono ?_
   rintro e w3 ⟨rfl,n3,rfl⟩
   dsimp only
   go_wp2
   go_ret
   exact ⟨rfl,below_drewN hb2 _⟩
 ·have hb:((r.length:Int) != (n:Int))=true:=by simp;omega
  have HP:Hid ((!iY n r)=true):=by show (!iY n r)=true;simp [iY,h]
  clear h hv
  rw [HP.out]
  go_enter Tryz.func140,Tryz.ntmps140
  go_wp2
  go_ret
  exact ⟨rfl,Below.refl _ _⟩
def vG (w:World) (v:Value) (m s:List (List Int)):Prop:=∃ u1 u2,v = .agg #[u1,u2]/\jr w u1 m/\jr w u2 s
theorem vG.below {w w':World} {v:Value} {m s:List (List Int)} (h:vG w v m s) (hb:Below w.heap.size w w'):vG w' v m s:=by
 obtain ⟨u1,u2,e,h1,h2⟩:=h
 exact ⟨u1,u2,e,jr.below h1 hb,jr.below h2 hb⟩
theorem wB (w:World) (A A':Option Addr) (n c n' c':Nat) :
  Calls Tryz.prog 139 #[.agg #[.slice A n c,.slice A' n' c']] w fun e w'=>e = .returned (.agg #[.slice A n c])/\Below w.heap.size w w':=by
 go_enter Tryz.func139,Tryz.ntmps139
 go_wp2
 exact bodyPost_ret (v := .agg #[.slice A n c]) (by simp [results,Tryz.results139,go_sem]) rfl ⟨rfl,by repeat (first | exact Below.refl _ _ | apply Below.drew | refine Below.setCell ?_ (by first | (simp;done) | (simp;omega)) _ | refine Below.alloc ?_ (by first | (simp;done) | (simp;omega)) _)⟩
theorem IK {m s:List (List Int)} (h:rng m.length 1 4=false):bg m s=false:=by unfold bg;rw [h];rfl
theorem IL {m s:List (List Int)} (h:lM m=false):bg m s=false:=by unfold bg;rw [h];simp
theorem IQ {m s:List (List Int)} (h:rng s.length 1 4=false):bg m s=false:=by unfold bg;rw [h];simp
theorem Qu {m s:List (List Int)} (h1:rng m.length 1 4=true) (h2:lM m=true) (h3:rng s.length 1 4=true):bg m s=s.all (iY m.length):=by unfold bg;rw [h1,h2,h3];rfl
set_option maxHeartbeats 2000000 in
theorem Fa (w:World) (v:Value) (m s:List (List Int)) (hx:vG w v m s) :
  Calls Tryz.prog 76 #[v] w fun e w'=>e = .returned (.bool (bg m s))/\Below w.heap.size w w':=by
 obtain ⟨u1,u2,rfl,h1,h2⟩:=hx
 obtain ⟨W,hW⟩:∃ W,(w.alloc (.cells #[u1,u2] 29)).alloc (.cells #[.int .i64 m.length] 3)=W:=⟨_,rfl⟩
 have hB:Below w.heap.size w W:=by rw [← hW];exact by repeat (first | exact Below.refl _ _ | apply Below.drew | refine Below.setCell ?_ (by first | (simp;done) | (simp;omega)) _ | refine Below.alloc ?_ (by first | (simp;done) | (simp;omega)) _)
 have hb1:W.cell? ⟨w.heap.size,0,none⟩=some u1:=by rw [← hW];simp [go_sem]
 have hb2:W.cell? ⟨w.heap.size,1,none⟩=some u2:=by rw [← hW];simp [go_sem]
 have hb3:W.cell? ⟨w.heap.size+1,0,none⟩=some (.int .i64 m.length):=by rw [← hW];simp [go_sem]
 have hlm:=SlO.len h1
 have hls:=SlO.len h2
 have HM:=hide fun W' (hb:Below w.heap.size w W')=>Ie W' u1 m (jr.below h1 hb)
 have HC:=hide fun (hn0:0<m.length) W' (hb:Below W.heap.size W W')=>mZ W' u2 s 140 #[.pointer (some ⟨w.heap.size+1,0,none⟩)] (fun r => !iY m.length r) xO (jr.below (jr.below h2 hB) hb)
  (fun W2 hW2 j hj v' hv'=>Dv W2 _ v' _ m.length hn0 hlm (aY hW2 (aY hb hb3)) (SlI.below hv' hW2))
 have HQ:Hid ((s.any fun r => !iY m.length r) = !s.all (iY m.length)):=by
  show _ = !s.all (iY m.length)
  rw [List.any_eq_not_all_not]
  simp
 obtain ⟨A1,c1,rfl,_,_,_⟩:=SlO.view h1
 obtain ⟨A2,c2,rfl,_,_,_⟩:=SlO.view h2
 have HW:=hide hW
 clear h1 h2 hW
 cases q1:rng m.length 1 4
 ·rw [IK q1]
  have Q1:=hide q1
  clear q1
  go_enter Tryz.func76,Tryz.ntmps76
  go_wp2_with fail
  rw [HW.out]
  refine (eX _ _ _ _).mono ?_
  rintro e w' ⟨rfl,rfl⟩
  rw [Q1.out]
  dsimp only
  go_wp2
  go_ret
  exact ⟨rfl,hB⟩
 ·have hn0:0<m.length:=by have:=gK.1 q1;omega
  have Q1:=hide q1
  cases q2:lM m
  ·rw [IL q2]
   have Q2:=hide q2
   clear q1 q2
   go_enter Tryz.func76,Tryz.ntmps76
   go_wp2_with fail
   rw [HW.out]
   refine (eX _ _ _ _).mono ?_
   rintro e w' ⟨rfl,rfl⟩
   rw [Q1.out]
   dsimp only
   go_wp2_with fail
   refine (wB _ _ _ _ _ _ _).mono ?_
   rintro e w3 ⟨rfl,hb3'⟩
   have B3:=hB.trans (hb3'.mono hB.size)
   dsimp only
   go_wp2_with fail
   refine (HM.out w3 B3).mono ?_
   rintro e w4 ⟨rfl,hb4⟩
   rw [Q2.out]
   dsimp only
   go_wp2
   go_ret
   exact ⟨rfl,B3.trans (hb4.mono B3.size)⟩
  ·have Q2:=hide q2
   cases q3:rng s.length 1 4
   ·rw [IQ q3]
    have Q3:=hide q3
    clear q1 q2 q3
    go_enter Tryz.func76,Tryz.ntmps76
    go_wp2_with fail
    rw [HW.out]
    refine (eX _ _ _ _).mono ?_
    rintro e w' ⟨rfl,rfl⟩
    rw [Q1.out]
    dsimp only
    go_wp2_with fail
    refine (wB _ _ _ _ _ _ _).mono ?_
    rintro e w3 ⟨rfl,hb3'⟩
    have B3:=hB.trans (hb3'.mono hB.size)
    dsimp only
    go_wp2_with fail
    refine (HM.out w3 B3).mono ?_
    rintro e w4 ⟨rfl,hb4⟩
    rw [Q2.out]
    have d2:=aY hb4 (aY hb3' hb2)
    dsimp only
    go_wp2_with fail
    refine (eX _ _ _ _).mono ?_
    rintro e w' ⟨rfl,rfl⟩
    rw [Q3.out]
    dsimp only
    go_wp2
    go_ret
    exact ⟨rfl,B3.trans (hb4.mono B3.size)⟩
   ·rw [Qu q1 q2 q3]
    have Q3:=hide q3
    clear q1 q2 q3
    go_enter Tryz.func76,Tryz.ntmps76
    go_wp2_with fail
    rw [HW.out]
    refine (eX _ _ _ _).mono ?_
    rintro e w' ⟨rfl,rfl⟩
    rw [Q1.out]
    dsimp only
    go_wp2_with fail
    refine (wB _ _ _ _ _ _ _).mono ?_
    rintro e w3 ⟨rfl,hb3'⟩
    have B3:=hB.trans (hb3'.mono hB.size)
    dsimp only
    go_wp2_with fail
    refine (HM.out w3 B3).mono ?_
    rintro e w4 ⟨rfl,hb4⟩
    rw [Q2.out]
    have d2:=aY hb4 (aY hb3' hb2)
    have B4:=B3.trans (hb4.mono B3.size)
    have HBW:=hide (kV hb3' hb4 (Nat.le_refl _))
    dsimp only
    go_wp2_with fail
    refine (eX _ _ _ _).mono ?_
    rintro e w' ⟨rfl,rfl⟩
    rw [Q3.out]
    dsimp only
    go_wp2_with fail
    refine (HC.out hn0 w4 HBW.out).mono ?_
    rintro e w5 ⟨rfl,hb5⟩
    rw [HQ.out]
    dsimp only
    go_wp2
    go_ret
    exact ⟨by simp,B4.trans (hb5.mono B4.size)⟩
def CB (xs:List Int) (k:Nat):Bool:=(xs.take k).any fun c=>decide (0<=c)
theorem JG (xs:List Int) (k:Nat) (h:k<xs.length):CB xs (k+1)=(CB xs k || decide (0<=xs[k])):=by
 unfold CB
 rw [List.take_succ_eq_append_getElem h,List.any_append]
 simp only [List.any_cons,List.any_nil,Bool.or_false]
theorem uX (w:World) (u:Value) (n:Nat) (xs:List Int) (hn:n<=9223372036854775807) (hx:SlI w u xs) :
  Calls Tryz.prog 115 #[.int .i64 n,u] w fun e w'=>e = .returned (.bool (iY n xs))/\w=w':=by
 have hlen:=hx.len
 obtain ⟨A,c,rfl,hc1,hc2,hcell⟩:=hx.view
 clear hx
 go_enter Tryz.func115,Tryz.ntmps115
 go_wp2
 go_loop [5,6] (fun b i=>∃ k:Nat,k<=xs.length/\i = .int .i64 k/\(∃ bb,b = .bool bb/\Hid (bb=CB xs k))/\Hid (∀ x∈xs.take k,rng x (-1) 20=true)) (fun _ i=>xs.length-(intOf i).toNat)
 case atStart=>exact ⟨0,Nat.zero_le _,rfl,⟨_,rfl,rfl⟩,(fun x h=>by simp at h)⟩
 case round =>
  obtain ⟨k,hk,rfl,⟨bb,rfl,hB⟩,hN⟩:=hrel
  by_cases hlt:k<xs.length
  ·obtain ⟨ad,rfl,hc⟩:=hcell k hlt
   clear hcell
   cases hp:rng xs[k] (-1) 20
   ·have HP:=hide hp
    have HF:Hid (iY n xs=false):=by
     show iY n xs=false
     unfold iY
     rw [Js (List.getElem_mem hlt) hp]
     simp
    clear hp
    go_wp2_with (go_at_call 70;refine (dX _ _ _ _).mono ?_;rintro e w' ⟨rfl,rfl⟩;rw [HP.out];dsimp only)
    go_ret
    exact ⟨by rw [HF.out];rfl,rfl⟩
   ·have HP:=hide hp
    have HS:=hide (JG xs k hlt)
    clear hp
    by_cases hge:0<=xs[k]
    ·cases bb
     all_goals
      go_wp2_with (go_at_call 70;refine (dX _ _ _ _).mono ?_;rintro e w' ⟨rfl,rfl⟩;rw [HP.out];dsimp only)
      go_round
      case rel =>
       refine ⟨k+1,by omega,by go_num,⟨_,rfl,by show _=_;rw [HS.out];simp [hge]⟩,?_⟩
       intro x hx
       rw [List.take_succ_eq_append_getElem hlt] at hx
       rcases List.mem_append.1 hx with hx | hx
       ·exact hN.out x hx
       ·simp at hx
        rw [hx]
        exact HP.out
      case measure=>simp [intOf];omega
    ·cases bb
     all_goals
      go_wp2_with (go_at_call 70;refine (dX _ _ _ _).mono ?_;rintro e w' ⟨rfl,rfl⟩;rw [HP.out];dsimp only)
      go_round
      case rel =>
       refine ⟨k+1,by omega,by go_num,⟨_,rfl,by show _=_;rw [HS.out,← hB.out];simp [hge]⟩,?_⟩
       intro x hx
       rw [List.take_succ_eq_append_getElem hlt] at hx
       rcases List.mem_append.1 hx with hx | hx
       ·exact hN.out x hx
       ·simp at hx
        rw [hx]
        exact HP.out
      case measure=>simp [intOf];omega
  ·obtain rfl:k=xs.length:=by omega
   have HF:Hid (iY n xs=((xs.length == n) && bb)):=by
    have h1:=hN.out
    have h2:=hB.out
    unfold CB at h2
    rw [List.take_of_length_le (Nat.le_refl _)] at h1 h2
    show iY n xs=_
    have h3:allIn (-1) 20 xs=true:=by unfold allIn;exact List.all_eq_true.2 h1
    unfold iY
    rw [h3,h2]
    simp
   clear hB hN
   by_cases he:xs.length=n
   ·have hb:((xs.length:Int) == (n:Int))=true:=by simp [he]
    have hb':(xs.length == n)=true:=by simp [he]
    rw [hb'] at HF
    clear he
    go_wp2
    go_ret
    exact ⟨by rw [HF.out];simp,rfl⟩
   ·have hb:((xs.length:Int) == (n:Int))=false:=by simp;omega
    have hb':(xs.length == n)=false:=by simp [he]
    rw [hb'] at HF
    clear he
    go_wp2
    go_ret
    exact ⟨by rw [HF.out];rfl,rfl⟩
set_option maxHeartbeats 2000000 in
theorem NC (w:World) (v:Value) (m s:List (List Int)) (hx:vG w v m s) :
  Calls Tryz.prog 146 #[v] w fun e w'=>e = .returned (.bool (bg m s))/\Below w.heap.size w w':=by
 obtain ⟨u1,u2,rfl,h1,h2⟩:=hx
 obtain ⟨W,hW⟩:∃ W,(w.alloc (.cells #[u1,u2] 29))=W:=⟨_,rfl⟩
 have hB:Below w.heap.size w W:=by rw [← hW];exact by repeat (first | exact Below.refl _ _ | apply Below.drew | refine Below.setCell ?_ (by first | (simp;done) | (simp;omega)) _ | refine Below.alloc ?_ (by first | (simp;done) | (simp;omega)) _)
 have hb1:W.cell? ⟨w.heap.size,0,none⟩=some u1:=by rw [← hW];simp [go_sem]
 have hb2:W.cell? ⟨w.heap.size,1,none⟩=some u2:=by rw [← hW];simp [go_sem]
 have hlm:=SlO.len h1
 have hls:=SlO.len h2
 have HM:=hide fun W' (hb:Below w.heap.size w W')=>Nz W' u1 m (jr.below h1 hb)
 obtain ⟨A1,c1,rfl,_,_,_⟩:=SlO.view h1
 obtain ⟨A2,c2,rfl,_,_,hcell⟩:=SlO.view h2
 have HW:=hide hW
 have HCELL:=hide hcell
 clear h1 h2 hW hcell
 cases q1:rng m.length 1 4
 ·rw [IK q1]
  have Q1:=hide q1
  clear q1
  go_enter Tryz.func146,Tryz.ntmps146
  go_wp2_with fail
  rw [HW.out]
  refine (dX _ _ _ _).mono ?_
  rintro e w' ⟨rfl,rfl⟩
  rw [Q1.out]
  dsimp only
  go_wp2
  go_ret
  exact ⟨rfl,hB⟩
 ·have Q1:=hide q1
  cases q2:lM m
  ·rw [IL q2]
   have Q2:=hide q2
   clear q1 q2
   go_enter Tryz.func146,Tryz.ntmps146
   go_wp2_with fail
   rw [HW.out]
   refine (dX _ _ _ _).mono ?_
   rintro e w' ⟨rfl,rfl⟩
   rw [Q1.out]
   dsimp only
   go_wp2_with fail
   refine (HM.out W hB).mono ?_
   rintro e w4 ⟨rfl,hb4⟩
   rw [Q2.out]
   dsimp only
   go_wp2
   go_ret
   exact ⟨rfl,hB.trans (hb4.mono hB.size)⟩
  ·have Q2:=hide q2
   cases q3:rng s.length 1 4
   ·rw [IQ q3]
    have Q3:=hide q3
    clear q1 q2 q3
    go_enter Tryz.func146,Tryz.ntmps146
    go_wp2_with fail
    rw [HW.out]
    refine (dX _ _ _ _).mono ?_
    rintro e w' ⟨rfl,rfl⟩
    rw [Q1.out]
    dsimp only
    go_wp2_with fail
    refine (HM.out W hB).mono ?_
    rintro e w4 ⟨rfl,hb4⟩
    rw [Q2.out]
    have d2:=aY hb4 hb2
    dsimp only
    go_wp2_with fail
    refine (dX _ _ _ _).mono ?_
    rintro e w' ⟨rfl,rfl⟩
    rw [Q3.out]
    dsimp only
    go_wp2
    go_ret
    exact ⟨rfl,hB.trans (hb4.mono hB.size)⟩
   ·have HP:=hide (Qu q1 q2 q3)
    have Q3:=hide q3
    clear q1 q2 q3
    go_enter Tryz.func146,Tryz.ntmps146
    go_wp2_with fail
    rw [HW.out]
    refine (dX _ _ _ _).mono ?_
    rintro e w' ⟨rfl,rfl⟩
    rw [Q1.out]
    dsimp only
    go_wp2_with fail
    refine (HM.out W hB).mono ?_
    rintro e w4 ⟨rfl,hb4⟩
    rw [Q2.out]
    have d1:=aY hb4 hb1
    have d2:=aY hb4 hb2
    have B4:=hB.trans (hb4.mono hB.size)
    have HB4:=hide B4
    dsimp only
    go_wp2_with fail
    refine (dX _ _ _ _).mono ?_
    rintro e w' ⟨rfl,rfl⟩
    rw [Q3.out]
    dsimp only
    go_wp2
    go_loopw [3] (fun i wr=>∃ k:Nat,k<=s.length/\i = .int .i64 k/\Hid (∀ x∈s.take k,iY m.length x=true)/\Qt w4 wr) (fun i _=>s.length-(intOf i).toNat)
    case atStart=>exact ⟨0,Nat.zero_le _,rfl,(fun x h=>by simp at h),Qt.refl _⟩
    case round =>
     obtain ⟨k,hk,rfl,hN,n,rfl⟩:=hrel
     by_cases hlt:k<s.length
     ·obtain ⟨ad,v,rfl,j1,j2⟩:=HCELL.out k hlt
      have j1':w4.cell? (ad.add k)=some v:=(HB4.out.cell (block_lt j1)).trans j1
      have HR:=hide fun a=>uX (w4.drewN a) v m.length s[k] hlm (SlI.below (j2.below HB4.out) (Cj _ _ _))
      clear j1 j2
      cases hp:iY m.length s[k]
      ·have HP2:=hide hp
       have HF:Hid ((s.all (iY m.length))=false):=by
        show _=false
        rw [Bool.eq_false_iff]
        intro hh
        have:=List.all_eq_true.1 hh _ (List.getElem_mem hlt)
        rw [hp] at this
        cases this
       rw [hp] at HR
       clear hp
       go_wp2_with fail
       go_quiet ((go_at_call 115;first | exact jh (HR.out _) | exact jg (HR.out _)))
       go_wp2
       go_ret
       exact ⟨by rw [HP.out,HF.out];rfl,below_drewN (below_drewN HB4.out _) _⟩
      ·have HP2:=hide hp
       rw [hp] at HR
       clear hp
       go_wp2_with fail
       go_quiet ((go_at_call 115;first | exact jh (HR.out _) | exact jg (HR.out _)))
       go_wp2
       go_roundw
       case rel =>
        refine ⟨k+1,by omega,by go_num,?_,by first | exact ⟨_,rfl⟩ | exact ⟨_,World.drewN_drewN _ _ _⟩⟩
        intro x hx
        rw [List.take_succ_eq_append_getElem hlt] at hx
        rcases List.mem_append.1 hx with hx | hx
        ·exact hN.out x hx
        ·simp at hx
         rw [hx]
         exact HP2.out
       case measure=>simp [intOf];omega
     ·go_wp2
      go_ret
      obtain rfl:k=s.length:=by omega
      have h1:=hN.out
      rw [List.take_of_length_le (Nat.le_refl _)] at h1
      exact ⟨by rw [HP.out,List.all_eq_true.2 h1];rfl,below_drewN HB4.out _⟩
end Go.Proofs.YtnblieajjclipaaGreat
