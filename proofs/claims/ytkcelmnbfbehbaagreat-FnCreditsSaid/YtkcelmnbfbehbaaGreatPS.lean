/- Problems: is a table of moves a metric, and are moves and serving costs a Problem, by the program's and the reference's functions. Conditions: none. -/
import Derived.Test.YtkcelmnbfbehbaaGreatPT
set_option linter.all false
namespace Go.Proofs.YtkcelmnbfbehbaaGreat
open Go.RowKit
def lI (m:List (List Int)):Bool:=eP m && nM m
def iT (n:Nat) (row:List Int):Bool:=(row.length == n) && allIn (-1) 20 row && row.any fun c=>decide (0<=c)
def bg (m s:List (List Int)):Bool:=rng m.length 1 4 && lI m && rng s.length 1 4 && s.all (iT m.length)
theorem IG (w:World) (u:Value) (m:List (List Int)) (hx:jB w u m) :
  Calls Tryz.prog 133 #[.agg #[u]] w fun e w'=>e = .returned (.bool (lI m))/\Below w.heap.size w w':=by
 obtain ⟨A,c,e0,_,_,_⟩:=SlO.view hx
 have hb0:Below w.heap.size w (w.alloc (.cells #[u] 114)):=by repeat (first | exact Below.refl _ _ | apply Below.drew | refine Below.setCell ?_ (by first | (simp;done) | (simp;omega)) _ | refine Below.alloc ?_ (by first | (simp;done) | (simp;omega)) _)
 have H1:=hide (KH (w.alloc (.cells #[u] 114)) u m (jB.below hx hb0))
 have H2:=hide fun (ht:eP m=true) W (hb:Below w.heap.size w W)=>Nk W u m (jB.below hx hb) ht
 subst e0
 clear hx
 cases ht:eP m
 ·have HT:=hide ht
  have HP:Hid (lI m=false):=by show lI m=false;unfold lI;rw [ht];rfl
  clear ht
  rw [HP.out]
  go_enter Tryz.func133,Tryz.ntmps133
  go_wp2_with ((with_reducible refine H1.out.mono ?_);rintro e w2 ⟨rfl,hb2⟩;rw [HT.out];dsimp only)
  go_ret
  exact ⟨rfl,hb0.trans (hb2.mono (by simp))⟩
 ·have HT:=hide ht
  have HP:Hid (lI m=nM m):=by show lI m=_;unfold lI;rw [ht];rfl
  clear ht
  rw [HP.out]
  go_enter Tryz.func133,Tryz.ntmps133
  go_wp2_with fail
  refine H1.out.mono ?_
  rintro e w2 ⟨rfl,hb2⟩
  rw [HT.out]
  have B2:Below w.heap.size w w2:=hb0.trans (hb2.mono (by simp))
  have hc:w2.cell? ⟨w.heap.size,0,none⟩=some (.slice A m.length c):=aZ hb2 (by simp [go_sem])
  dsimp only
  go_wp2_with fail
  refine (H2.out HT.out w2 B2).mono ?_
  rintro e w3 ⟨⟨v,k,⟨A3,c3,rfl⟩,rfl⟩,hb3⟩
  dsimp only
  go_wp2
  go_ret
  exact ⟨by simp,B2.trans (hb3.mono B2.size)⟩
theorem NK (w:World) (u:Value) (m:List (List Int)) (hx:jB w u m) :
  Calls Tryz.prog 123 #[.agg #[u]] w fun e w'=>e = .returned (.bool (lI m))/\Below w.heap.size w w':=by
 obtain ⟨A,c,e0,_,_,_⟩:=SlO.view hx
 have hb0:Below w.heap.size w (w.alloc (.cells #[u] 114)):=by repeat (first | exact Below.refl _ _ | apply Below.drew | refine Below.setCell ?_ (by first | (simp;done) | (simp;omega)) _ | refine Below.alloc ?_ (by first | (simp;done) | (simp;omega)) _)
 have H1:=hide (KT (w.alloc (.cells #[u] 114)) u m (jB.below hx hb0))
 have H2:=hide fun (ht:eP m=true) W (hb:Below w.heap.size w W)=>IK W u m (jB.below hx hb) ht
 subst e0
 clear hx
 cases ht:eP m
 ·have HT:=hide ht
  have HP:Hid (lI m=false):=by show lI m=false;unfold lI;rw [ht];rfl
  clear ht
  rw [HP.out]
  go_enter Tryz.func123,Tryz.ntmps123
  go_wp2_with ((with_reducible refine H1.out.mono ?_);rintro e w2 ⟨rfl,hb2⟩;rw [HT.out];dsimp only)
  go_ret
  exact ⟨rfl,hb0.trans (hb2.mono (by simp))⟩
 ·have HT:=hide ht
  have HP:Hid (lI m=nM m):=by show lI m=_;unfold lI;rw [ht];rfl
  clear ht
  rw [HP.out]
  go_enter Tryz.func123,Tryz.ntmps123
  go_wp2_with fail
  refine H1.out.mono ?_
  rintro e w2 ⟨rfl,hb2⟩
  rw [HT.out]
  have B2:Below w.heap.size w w2:=hb0.trans (hb2.mono (by simp))
  have hc:w2.cell? ⟨w.heap.size,0,none⟩=some (.slice A m.length c):=aZ hb2 (by simp [go_sem])
  dsimp only
  go_wp2_with fail
  refine (H2.out HT.out w2 B2).mono ?_
  rintro e w3 ⟨⟨v,k,⟨A3,c3,rfl⟩,rfl,hk⟩,hb3⟩
  have HK:Hid (((k:Int) == 0)=nM m):=by
   show ((k:Int) == 0)=nM m
   cases hd:nM m
   ·have:k≠0:=fun h=>by rw [hk.1 h] at hd;cases hd
    simp
    omega
   ·have:=hk.2 hd
    simp [this]
  clear hk
  dsimp only
  go_wp2
  go_ret
  exact ⟨by rw [← HK.out];rfl,B2.trans (hb3.mono B2.size)⟩
theorem wu:Enters Tryz.prog 137:=fun _ _=>by kernel_rfl
theorem xZ:Enters Tryz.prog 135:=fun _ _=>by kernel_rfl
theorem BP (w:World) (x:Int) :
  Calls Tryz.prog 137 (#[.int .i64 x]++#[]) w fun e w'=>e = .returned (.bool (!rng x (-1) 20))/\Below w.heap.size w w':=by
 simp only [List.push_toArray,List.append_toArray,List.cons_append,List.nil_append,List.append_nil]
 go_enter Tryz.func137,Tryz.ntmps137
 go_wp2_with (go_at_call 118;refine (fB _ _ _ _).mono ?_;rintro e w' ⟨rfl,rfl⟩;dsimp only)
 go_ret
 exact ⟨rfl,Below.refl _ _⟩
theorem MI (x:Int) (xs:List Int):(x::xs).any (fun c=>decide (0<=c))=decide (0<=greatest x xs):=by
 induction xs generalizing x with
 | nil=>simp only [greatest,List.any_cons,List.any_nil,Bool.or_false,List.foldl_nil];exact decide_eq_decide.2 Iff.rfl
 | cons y xs ih =>
  have h:=ih (max x y)
  show _=decide (0<=greatest (max x y) xs)
  rw [← h]
  simp only [List.any_cons]
  by_cases h1:0<=x<;>by_cases h2:0<=y<;>simp [h1,h2]<;>omega
theorem Ea (w:World) (a:Addr) (v:Value) (r:List Int) (n:Nat) (hn0:0<n) (hn:n<=9223372036854775807) (hc:w.cell? a=some (.int .i64 n)) (hv:SlI w v r) :
  Calls Tryz.prog 135 (#[v]++#[.pointer (some a)]) w fun e w'=>e = .returned (.bool (!iT n r))/\Below w.heap.size w w':=by
 have hlv:=hv.len
 have HC:=hide (oz w v r 137 #[] (fun x => !rng x (-1) 20) wu hv (fun W hW j hj v' hv'=>by subst hv';exact BP W _))
 have HA:Hid ((r.any fun x => !rng x (-1) 20) = !allIn (-1) 20 r):=by
  show _ = !allIn (-1) 20 r
  rw [← Bo]
  simp
 rw [HA.out] at HC
 have HM:=hide fun W (hb:Below w.heap.size w W) x xs (hr:r=x::xs)=>Jl W v x xs (by rw [← hr];exact hv.below hb)
 obtain ⟨A,c,rfl,_,_,_⟩:=hv.view
 simp only [List.push_toArray,List.append_toArray,List.cons_append,List.nil_append]
 by_cases h:r.length=n
 ·have hb:((r.length:Int) != (n:Int))=false:=by simp [h]
  cases ha:allIn (-1) 20 r
  ·have HB:=hide ha
   have HP:Hid ((!iT n r)=true):=by show (!iT n r)=true;simp [iT,ha]
   clear h hv ha
   rw [HP.out]
   go_enter Tryz.func135,Tryz.ntmps135
   go_wp2_with ((with_reducible refine HC.out.mono ?_);rintro e w2 ⟨rfl,hb2⟩;rw [HB.out];dsimp only)
   go_ret
   exact ⟨rfl,hb2⟩
  ·have HB:=hide ha
   obtain ⟨x,xs,hr⟩:∃ x xs,r=x::xs:=by
    cases r with
    | nil=>simp at h;omega
    | cons x xs=>exact ⟨x,xs,rfl⟩
   have HP:Hid ((!iT n r)=decide (greatest x xs<0)):=by
    show (!iT n r)=_
    unfold iT
    rw [h,ha,hr,MI,Bool.eq_iff_iff]
    simp
   have HR:=hide hr
   clear h hv ha hr
   rw [HP.out]
   go_enter Tryz.func135,Tryz.ntmps135
   go_wp2_with fail
   refine HC.out.mono ?_
   rintro e w2 ⟨rfl,hb2⟩
   rw [HB.out]
   dsimp only
   go_wp2_with fail
   refine (HM.out w2 hb2 x xs HR.out).mono ?_
   rintro e w3 ⟨rfl,n3,rfl⟩
   dsimp only
   go_wp2
   go_ret
   exact ⟨rfl,below_drewN hb2 _⟩
 ·have hb:((r.length:Int) != (n:Int))=true:=by simp;omega
  have HP:Hid ((!iT n r)=true):=by show (!iT n r)=true;simp [iT,h]
  clear h hv
  rw [HP.out]
  go_enter Tryz.func135,Tryz.ntmps135
  go_wp2
  go_ret
  exact ⟨rfl,Below.refl _ _⟩
def vT (w:World) (v:Value) (m s:List (List Int)):Prop:=∃ u1 u2,v = .agg #[u1,u2]/\jB w u1 m/\jB w u2 s
theorem vT.below {w w':World} {v:Value} {m s:List (List Int)} (h:vT w v m s) (hb:Below w.heap.size w w'):vT w' v m s:=by
 obtain ⟨u1,u2,e,h1,h2⟩:=h
 exact ⟨u1,u2,e,jB.below h1 hb,jB.below h2 hb⟩
theorem wO (w:World) (A A':Option Addr) (n c n' c':Nat) :
  Calls Tryz.prog 134 #[.agg #[.slice A n c,.slice A' n' c']] w fun e w'=>e = .returned (.agg #[.slice A n c])/\Below w.heap.size w w':=by
 go_enter Tryz.func134,Tryz.ntmps134
 go_wp2
 exact bodyPost_ret (v := .agg #[.slice A n c]) (by simp [results,Tryz.results134,go_sem]) rfl ⟨rfl,by repeat (first | exact Below.refl _ _ | apply Below.drew | refine Below.setCell ?_ (by first | (simp;done) | (simp;omega)) _ | refine Below.alloc ?_ (by first | (simp;done) | (simp;omega)) _)⟩
theorem I8 {m s:List (List Int)} (h:rng m.length 1 4=false):bg m s=false:=by unfold bg;rw [h];rfl
theorem I9 {m s:List (List Int)} (h:lI m=false):bg m s=false:=by unfold bg;rw [h];simp
theorem Ja {m s:List (List Int)} (h:rng s.length 1 4=false):bg m s=false:=by unfold bg;rw [h];simp
theorem Qz {m s:List (List Int)} (h1:rng m.length 1 4=true) (h2:lI m=true) (h3:rng s.length 1 4=true):bg m s=s.all (iT m.length):=by unfold bg;rw [h1,h2,h3];rfl
set_option maxHeartbeats 2000000 in
theorem FT (w:World) (v:Value) (m s:List (List Int)) (hx:vT w v m s) :
  Calls Tryz.prog 80 #[v] w fun e w'=>e = .returned (.bool (bg m s))/\Below w.heap.size w w':=by
 obtain ⟨u1,u2,rfl,h1,h2⟩:=hx
 obtain ⟨W,hW⟩:∃ W,(w.alloc (.cells #[u1,u2] 26)).alloc (.cells #[.int .i64 m.length] 3)=W:=⟨_,rfl⟩
 have hB:Below w.heap.size w W:=by rw [← hW];exact by repeat (first | exact Below.refl _ _ | apply Below.drew | refine Below.setCell ?_ (by first | (simp;done) | (simp;omega)) _ | refine Below.alloc ?_ (by first | (simp;done) | (simp;omega)) _)
 have hb1:W.cell? ⟨w.heap.size,0,none⟩=some u1:=by rw [← hW];simp [go_sem]
 have hb2:W.cell? ⟨w.heap.size,1,none⟩=some u2:=by rw [← hW];simp [go_sem]
 have hb3:W.cell? ⟨w.heap.size+1,0,none⟩=some (.int .i64 m.length):=by rw [← hW];simp [go_sem]
 have hlm:=SlO.len h1
 have hls:=SlO.len h2
 have HM:=hide fun W' (hb:Below w.heap.size w W')=>IG W' u1 m (jB.below h1 hb)
 have HC:=hide fun (hn0:0<m.length) W' (hb:Below W.heap.size W W')=>ng W' u2 s 135 #[.pointer (some ⟨w.heap.size+1,0,none⟩)] (fun r => !iT m.length r) xZ (jB.below (jB.below h2 hB) hb)
  (fun W2 hW2 j hj v' hv'=>Ea W2 _ v' _ m.length hn0 hlm (aZ hW2 (aZ hb hb3)) (SlI.below hv' hW2))
 have HQ:Hid ((s.any fun r => !iT m.length r) = !s.all (iT m.length)):=by
  show _ = !s.all (iT m.length)
  rw [List.any_eq_not_all_not]
  simp
 obtain ⟨A1,c1,rfl,_,_,_⟩:=SlO.view h1
 obtain ⟨A2,c2,rfl,_,_,_⟩:=SlO.view h2
 have HW:=hide hW
 clear h1 h2 hW
 cases q1:rng m.length 1 4
 ·rw [I8 q1]
  have Q1:=hide q1
  clear q1
  go_enter Tryz.func80,Tryz.ntmps80
  go_wp2_with fail
  rw [HW.out]
  refine (fB _ _ _ _).mono ?_
  rintro e w' ⟨rfl,rfl⟩
  rw [Q1.out]
  dsimp only
  go_wp2
  go_ret
  exact ⟨rfl,hB⟩
 ·have hn0:0<m.length:=by have:=jc.1 q1;omega
  have Q1:=hide q1
  cases q2:lI m
  ·rw [I9 q2]
   have Q2:=hide q2
   clear q1 q2
   go_enter Tryz.func80,Tryz.ntmps80
   go_wp2_with fail
   rw [HW.out]
   refine (fB _ _ _ _).mono ?_
   rintro e w' ⟨rfl,rfl⟩
   rw [Q1.out]
   dsimp only
   go_wp2_with fail
   refine (wO _ _ _ _ _ _ _).mono ?_
   rintro e w3 ⟨rfl,hb3'⟩
   have B3:=hB.trans (hb3'.mono hB.size)
   dsimp only
   go_wp2_with fail
   refine (HM.out w3 B3).mono ?_
   rintro e w4 ⟨rfl,hb4⟩
   rw [Q2.out]
   dsimp only
   go_wp2
   go_ret
   exact ⟨rfl,B3.trans (hb4.mono B3.size)⟩
  ·have Q2:=hide q2
   cases q3:rng s.length 1 4
   ·rw [Ja q3]
    have Q3:=hide q3
    clear q1 q2 q3
    go_enter Tryz.func80,Tryz.ntmps80
    go_wp2_with fail
    rw [HW.out]
    refine (fB _ _ _ _).mono ?_
    rintro e w' ⟨rfl,rfl⟩
    rw [Q1.out]
    dsimp only
    go_wp2_with fail
    refine (wO _ _ _ _ _ _ _).mono ?_
    rintro e w3 ⟨rfl,hb3'⟩
    have B3:=hB.trans (hb3'.mono hB.size)
    dsimp only
    go_wp2_with fail
    refine (HM.out w3 B3).mono ?_
    rintro e w4 ⟨rfl,hb4⟩
    rw [Q2.out]
    have d2:=aZ hb4 (aZ hb3' hb2)
    dsimp only
    go_wp2_with fail
    refine (fB _ _ _ _).mono ?_
    rintro e w' ⟨rfl,rfl⟩
    rw [Q3.out]
    dsimp only
    go_wp2
    go_ret
    exact ⟨rfl,B3.trans (hb4.mono B3.size)⟩
   ·rw [Qz q1 q2 q3]
    have Q3:=hide q3
    clear q1 q2 q3
    go_enter Tryz.func80,Tryz.ntmps80
    go_wp2_with fail
    rw [HW.out]
    refine (fB _ _ _ _).mono ?_
    rintro e w' ⟨rfl,rfl⟩
    rw [Q1.out]
    dsimp only
    go_wp2_with fail
    refine (wO _ _ _ _ _ _ _).mono ?_
    rintro e w3 ⟨rfl,hb3'⟩
    have B3:=hB.trans (hb3'.mono hB.size)
    dsimp only
    go_wp2_with fail
    refine (HM.out w3 B3).mono ?_
    rintro e w4 ⟨rfl,hb4⟩
    rw [Q2.out]
    have d2:=aZ hb4 (aZ hb3' hb2)
    have B4:=B3.trans (hb4.mono B3.size)
    have HBW:=hide (kT hb3' hb4 (Nat.le_refl _))
    dsimp only
    go_wp2_with fail
    refine (fB _ _ _ _).mono ?_
    rintro e w' ⟨rfl,rfl⟩
    rw [Q3.out]
    dsimp only
    go_wp2_with fail
    refine (HC.out hn0 w4 HBW.out).mono ?_
    rintro e w5 ⟨rfl,hb5⟩
    rw [HQ.out]
    dsimp only
    go_wp2
    go_ret
    exact ⟨by simp,B4.trans (hb5.mono B4.size)⟩
def Dt (xs:List Int) (k:Nat):Bool:=(xs.take k).any fun c=>decide (0<=c)
theorem J3 (xs:List Int) (k:Nat) (h:k<xs.length):Dt xs (k+1)=(Dt xs k || decide (0<=xs[k])):=by
 unfold Dt
 rw [List.take_succ_eq_append_getElem h,List.any_append]
 simp only [List.any_cons,List.any_nil,Bool.or_false]
theorem vI (w:World) (u:Value) (n:Nat) (xs:List Int) (hn:n<=9223372036854775807) (hx:SlI w u xs) :
  Calls Tryz.prog 88 #[.int .i64 n,u] w fun e w'=>e = .returned (.bool (iT n xs))/\w=w':=by
 have hlen:=hx.len
 obtain ⟨A,c,rfl,hc1,hc2,hcell⟩:=hx.view
 clear hx
 go_enter Tryz.func88,Tryz.ntmps88
 go_wp2
 go_loop [5,6] (fun b i=>∃ k:Nat,k<=xs.length/\i = .int .i64 k/\(∃ bb,b = .bool bb/\Hid (bb=Dt xs k))/\Hid (∀ x∈xs.take k,rng x (-1) 20=true)) (fun _ i=>xs.length-(intOf i).toNat)
 case atStart=>exact ⟨0,Nat.zero_le _,rfl,⟨_,rfl,rfl⟩,(fun x h=>by simp at h)⟩
 case round =>
  obtain ⟨k,hk,rfl,⟨bb,rfl,hB⟩,hN⟩:=hrel
  by_cases hlt:k<xs.length
  ·obtain ⟨ad,rfl,hc⟩:=hcell k hlt
   clear hcell
   cases hp:rng xs[k] (-1) 20
   ·have HP:=hide hp
    have HF:Hid (iT n xs=false):=by
     show iT n xs=false
     unfold iT
     rw [JE (List.getElem_mem hlt) hp]
     simp
    clear hp
    go_wp2_with (go_at_call 117;refine (eG _ _ _ _).mono ?_;rintro e w' ⟨rfl,rfl⟩;rw [HP.out];dsimp only)
    go_ret
    exact ⟨by rw [HF.out];rfl,rfl⟩
   ·have HP:=hide hp
    have HS:=hide (J3 xs k hlt)
    clear hp
    by_cases hge:0<=xs[k]
    ·cases bb
     all_goals
      go_wp2_with (go_at_call 117;refine (eG _ _ _ _).mono ?_;rintro e w' ⟨rfl,rfl⟩;rw [HP.out];dsimp only)
      go_round
      case rel =>
       refine ⟨k+1,by omega,by go_num,⟨_,rfl,by show _=_;rw [HS.out];simp [hge]⟩,?_⟩
       intro x hx
       rw [List.take_succ_eq_append_getElem hlt] at hx
       rcases List.mem_append.1 hx with hx | hx
       ·exact hN.out x hx
       ·simp at hx
        rw [hx]
        exact HP.out
      case measure=>simp [intOf];omega
    ·cases bb
     all_goals
      go_wp2_with (go_at_call 117;refine (eG _ _ _ _).mono ?_;rintro e w' ⟨rfl,rfl⟩;rw [HP.out];dsimp only)
      go_round
      case rel =>
       refine ⟨k+1,by omega,by go_num,⟨_,rfl,by show _=_;rw [HS.out,← hB.out];simp [hge]⟩,?_⟩
       intro x hx
       rw [List.take_succ_eq_append_getElem hlt] at hx
       rcases List.mem_append.1 hx with hx | hx
       ·exact hN.out x hx
       ·simp at hx
        rw [hx]
        exact HP.out
      case measure=>simp [intOf];omega
  ·obtain rfl:k=xs.length:=by omega
   have HF:Hid (iT n xs=((xs.length == n) && bb)):=by
    have h1:=hN.out
    have h2:=hB.out
    unfold Dt at h2
    rw [List.take_of_length_le (Nat.le_refl _)] at h1 h2
    show iT n xs=_
    have h3:allIn (-1) 20 xs=true:=by unfold allIn;exact List.all_eq_true.2 h1
    unfold iT
    rw [h3,h2]
    simp
   clear hB hN
   by_cases he:xs.length=n
   ·have hb:((xs.length:Int) == (n:Int))=true:=by simp [he]
    have hb':(xs.length == n)=true:=by simp [he]
    rw [hb'] at HF
    clear he
    go_wp2
    go_ret
    exact ⟨by rw [HF.out];simp,rfl⟩
   ·have hb:((xs.length:Int) == (n:Int))=false:=by simp;omega
    have hb':(xs.length == n)=false:=by simp [he]
    rw [hb'] at HF
    clear he
    go_wp2
    go_ret
    exact ⟨by rw [HF.out];rfl,rfl⟩
set_option maxHeartbeats 2000000 in
theorem NM (w:World) (v:Value) (m s:List (List Int)) (hx:vT w v m s) :
  Calls Tryz.prog 62 #[v] w fun e w'=>e = .returned (.bool (bg m s))/\Below w.heap.size w w':=by
 obtain ⟨u1,u2,rfl,h1,h2⟩:=hx
 obtain ⟨W,hW⟩:∃ W,(w.alloc (.cells #[u1,u2] 26))=W:=⟨_,rfl⟩
 have hB:Below w.heap.size w W:=by rw [← hW];exact by repeat (first | exact Below.refl _ _ | apply Below.drew | refine Below.setCell ?_ (by first | (simp;done) | (simp;omega)) _ | refine Below.alloc ?_ (by first | (simp;done) | (simp;omega)) _)
 have hb1:W.cell? ⟨w.heap.size,0,none⟩=some u1:=by rw [← hW];simp [go_sem]
 have hb2:W.cell? ⟨w.heap.size,1,none⟩=some u2:=by rw [← hW];simp [go_sem]
 have hlm:=SlO.len h1
 have hls:=SlO.len h2
 have HM:=hide fun W' (hb:Below w.heap.size w W')=>NK W' u1 m (jB.below h1 hb)
 obtain ⟨A1,c1,rfl,_,_,_⟩:=SlO.view h1
 obtain ⟨A2,c2,rfl,_,_,hcell⟩:=SlO.view h2
 have HW:=hide hW
 have HCELL:=hide hcell
 clear h1 h2 hW hcell
 cases q1:rng m.length 1 4
 ·rw [I8 q1]
  have Q1:=hide q1
  clear q1
  go_enter Tryz.func62,Tryz.ntmps62
  go_wp2_with fail
  rw [HW.out]
  refine (eG _ _ _ _).mono ?_
  rintro e w' ⟨rfl,rfl⟩
  rw [Q1.out]
  dsimp only
  go_wp2
  go_ret
  exact ⟨rfl,hB⟩
 ·have Q1:=hide q1
  cases q2:lI m
  ·rw [I9 q2]
   have Q2:=hide q2
   clear q1 q2
   go_enter Tryz.func62,Tryz.ntmps62
   go_wp2_with fail
   rw [HW.out]
   refine (eG _ _ _ _).mono ?_
   rintro e w' ⟨rfl,rfl⟩
   rw [Q1.out]
   dsimp only
   go_wp2_with fail
   refine (HM.out W hB).mono ?_
   rintro e w4 ⟨rfl,hb4⟩
   rw [Q2.out]
   dsimp only
   go_wp2
   go_ret
   exact ⟨rfl,hB.trans (hb4.mono hB.size)⟩
  ·have Q2:=hide q2
   cases q3:rng s.length 1 4
   ·rw [Ja q3]
    have Q3:=hide q3
    clear q1 q2 q3
    go_enter Tryz.func62,Tryz.ntmps62
    go_wp2_with fail
    rw [HW.out]
    refine (eG _ _ _ _).mono ?_
    rintro e w' ⟨rfl,rfl⟩
    rw [Q1.out]
    dsimp only
    go_wp2_with fail
    refine (HM.out W hB).mono ?_
    rintro e w4 ⟨rfl,hb4⟩
    rw [Q2.out]
    have d2:=aZ hb4 hb2
    dsimp only
    go_wp2_with fail
    refine (eG _ _ _ _).mono ?_
    rintro e w' ⟨rfl,rfl⟩
    rw [Q3.out]
    dsimp only
    go_wp2
    go_ret
    exact ⟨rfl,hB.trans (hb4.mono hB.size)⟩
   ·have HP:=hide (Qz q1 q2 q3)
    have Q3:=hide q3
    clear q1 q2 q3
    go_enter Tryz.func62,Tryz.ntmps62
    go_wp2_with fail
    rw [HW.out]
    refine (eG _ _ _ _).mono ?_
    rintro e w' ⟨rfl,rfl⟩
    rw [Q1.out]
    dsimp only
    go_wp2_with fail
    refine (HM.out W hB).mono ?_
    rintro e w4 ⟨rfl,hb4⟩
    rw [Q2.out]
    have d1:=aZ hb4 hb1
    have d2:=aZ hb4 hb2
    have B4:=hB.trans (hb4.mono hB.size)
    have HB4:=hide B4
    dsimp only
    go_wp2_with fail
    refine (eG _ _ _ _).mono ?_
    rintro e w' ⟨rfl,rfl⟩
    rw [Q3.out]
    dsimp only
    go_wp2
    go_loopw [3] (fun i wr=>∃ k:Nat,k<=s.length/\i = .int .i64 k/\Hid (∀ x∈s.take k,iT m.length x=true)/\Qt w4 wr) (fun i _=>s.length-(intOf i).toNat)
    case atStart=>exact ⟨0,Nat.zero_le _,rfl,(fun x h=>by simp at h),Qt.refl _⟩
    case round =>
     obtain ⟨k,hk,rfl,hN,n,rfl⟩:=hrel
     by_cases hlt:k<s.length
     ·obtain ⟨ad,v,rfl,j1,j2⟩:=HCELL.out k hlt
      have j1':w4.cell? (ad.add k)=some v:=(HB4.out.cell (block_lt j1)).trans j1
      have HR:=hide fun a=>vI (w4.drewN a) v m.length s[k] hlm (SlI.below (j2.below HB4.out) (Dn _ _ _))
      clear j1 j2
      cases hp:iT m.length s[k]
      ·have HP2:=hide hp
       have HF:Hid ((s.all (iT m.length))=false):=by
        show _=false
        rw [Bool.eq_false_iff]
        intro hh
        have:=List.all_eq_true.1 hh _ (List.getElem_mem hlt)
        rw [hp] at this
        cases this
       rw [hp] at HR
       clear hp
       go_wp2_with fail
       go_quiet ((go_at_call 88;first | exact jf (HR.out _) | exact je (HR.out _)))
       go_wp2
       go_ret
       exact ⟨by rw [HP.out,HF.out];rfl,below_drewN (below_drewN HB4.out _) _⟩
      ·have HP2:=hide hp
       rw [hp] at HR
       clear hp
       go_wp2_with fail
       go_quiet ((go_at_call 88;first | exact jf (HR.out _) | exact je (HR.out _)))
       go_wp2
       go_roundw
       case rel =>
        refine ⟨k+1,by omega,by go_num,?_,by first | exact ⟨_,rfl⟩ | exact ⟨_,World.drewN_drewN _ _ _⟩⟩
        intro x hx
        rw [List.take_succ_eq_append_getElem hlt] at hx
        rcases List.mem_append.1 hx with hx | hx
        ·exact hN.out x hx
        ·simp at hx
         rw [hx]
         exact HP2.out
       case measure=>simp [intOf];omega
     ·go_wp2
      go_ret
      obtain rfl:k=s.length:=by omega
      have h1:=hN.out
      rw [List.take_of_length_le (Nat.le_refl _)] at h1
      exact ⟨by rw [HP.out,List.all_eq_true.2 h1];rfl,below_drewN HB4.out _⟩
end Go.Proofs.YtkcelmnbfbehbaaGreat
