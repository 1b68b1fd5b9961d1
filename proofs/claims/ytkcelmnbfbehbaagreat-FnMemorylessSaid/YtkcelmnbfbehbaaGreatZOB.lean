/- Fractions, first part: the greatest common divisor, sizes, and whether a pair is a fraction, by the program's and the reference's functions. Conditions: numbers of at least 0 for the divisor; sizes above the least int. -/
import Derived.Test.YtkcelmnbfbehbaaGreatGCT
set_option linter.all false
namespace Go.Proofs.YtkcelmnbfbehbaaGreat
open Go.RowKit
theorem JY (a b:Int) (ha:0<=a) (hb:0<b):Int.gcd b (a % b)=Int.gcd a b:=by
 obtain ⟨n,rfl⟩:=Int.eq_ofNat_of_zero_le ha
 obtain ⟨m,rfl⟩:=Int.eq_ofNat_of_zero_le (Int.le_of_lt hb)
 rw [← Int.natCast_emod,Int.gcd_natCast_natCast,Int.gcd_natCast_natCast,Nat.gcd_comm n m,Nat.gcd_rec m n,Nat.gcd_comm]
set_option maxHeartbeats 400000 in
theorem iD (w:World) (a b:Int) (ha:0<=a) (hb:0<=b) (ha2:a<=9223372036854775807) (hb2:b<=9223372036854775807) :
  Calls Tryz.prog 146 #[.int .i64 a,.int .i64 b] w fun e w'=>e = .returned (.int .i64 (Int.gcd a b))/\Qt w w':=by
 go_enter Tryz.func146,Tryz.ntmps146
 go_wp2
 go_loopw [0,1] (fun u v wr=>∃ x y:Int,0<=x/\0<=y/\x<=9223372036854775807/\y<=9223372036854775807/\u = .int .i64 x/\v = .int .i64 y/\Hid (Int.gcd x y=Int.gcd a b)/\Qt w wr) (fun _ v _=>(intOf v).toNat)
 case atStart=>exact ⟨a,b,ha,hb,ha2,hb2,rfl,rfl,rfl,Qt.refl _⟩
 case round =>
  obtain ⟨x,y,hx,hy,hx2,hy2,rfl,rfl,hg,n,rfl⟩:=hrel
  by_cases h:0<y
  ·have hs:=hide (JY x y hx h)
   have h1:(y == 0)=false:=by simp;omega
   have h2:=Int.emod_nonneg x (show y≠0 by omega)
   have h3:=Int.emod_lt_of_pos x h
   go_wp2
   go_quiet (fail)
   go_wp2
   go_roundw
   case rel=>exact ⟨y,x % y,hy,h2,hy2,by omega,rfl,rfl,hs.out.trans hg.out,by first | exact ⟨_,rfl⟩ | exact ⟨_,World.drewN_drewN _ _ _⟩⟩
   case measure=>simp [intOf];omega
  ·obtain rfl:y=0:=by omega
   go_wp2
   go_ret
   refine ⟨?_,by first | exact ⟨_,rfl⟩ | exact ⟨_,World.drewN_drewN _ _ _⟩⟩
   have h1:=hg.out
   rw [Int.gcd_zero_right] at h1
   show Ending.returned (.int .i64 x)=_
   rw [← h1,Int.natAbs_of_nonneg hx]
set_option maxHeartbeats 400000 in
theorem kH (w:World) (a b:Int) (ha:0<=a) (hb:0<=b) (ha2:a<=9223372036854775807) (hb2:b<=9223372036854775807) :
  Calls Tryz.prog 149 #[.int .i64 a,.int .i64 b] w fun e w'=>e = .returned (.int .i64 (Int.gcd a b))/\Qt w w':=by
 go_enter Tryz.func149,Tryz.ntmps149
 go_wp2
 go_loopw [0,1] (fun u v wr=>∃ x y:Int,0<=x/\0<=y/\x<=9223372036854775807/\y<=9223372036854775807/\u = .int .i64 x/\v = .int .i64 y/\Hid (Int.gcd x y=Int.gcd a b)/\Qt w wr) (fun _ v _=>(intOf v).toNat)
 case atStart=>exact ⟨a,b,ha,hb,ha2,hb2,rfl,rfl,rfl,Qt.refl _⟩
 case round =>
  obtain ⟨x,y,hx,hy,hx2,hy2,rfl,rfl,hg,n,rfl⟩:=hrel
  by_cases h:0<y
  ·have hs:=hide (JY x y hx h)
   have h1:(y == 0)=false:=by simp;omega
   have h2:=Int.emod_nonneg x (show y≠0 by omega)
   have h3:=Int.emod_lt_of_pos x h
   go_wp2
   go_quiet (fail)
   go_wp2
   go_roundw
   case rel=>exact ⟨y,x % y,hy,h2,hy2,by omega,rfl,rfl,hs.out.trans hg.out,by first | exact ⟨_,rfl⟩ | exact ⟨_,World.drewN_drewN _ _ _⟩⟩
   case measure=>simp [intOf];omega
  ·obtain rfl:y=0:=by omega
   go_wp2
   go_ret
   refine ⟨?_,by first | exact ⟨_,rfl⟩ | exact ⟨_,World.drewN_drewN _ _ _⟩⟩
   have h1:=hg.out
   rw [Int.gcd_zero_right] at h1
   show Ending.returned (.int .i64 x)=_
   rw [← h1,Int.natAbs_of_nonneg hx]
theorem size_any (w:World) (n:Int) (h1 : -9223372036854775807<=n) (h2:n<=9223372036854775807):Calls Tryz.prog 147 #[.int .i64 n] w fun e w'=>e = .returned (.int .i64 n.natAbs)/\w=w':=by
 by_cases h:0<=n
 ·go_enter Tryz.func147,Tryz.ntmps147
  go_wp2
  go_ret
  refine ⟨?_,rfl⟩
  show Ending.returned (.int .i64 _)=_
  congr 2
  omega
 ·go_enter Tryz.func147,Tryz.ntmps147
  go_wp2
  go_ret
  refine ⟨?_,rfl⟩
  show Ending.returned (.int .i64 _)=_
  congr 2
  omega
theorem kG (w:World) (n:Int) (h1 : -9223372036854775807<=n) (h2:n<=9223372036854775807):Calls Tryz.prog 150 #[.int .i64 n] w fun e w'=>e = .returned (.int .i64 n.natAbs)/\w=w':=by
 by_cases h:n > -n
 ·have e:(n.natAbs:Int)=n:=by omega
  rw [e]
  go_enter Tryz.func150,Tryz.ntmps150
  go_wp2
  go_ret
  exact ⟨rfl,rfl⟩
 ·have e:(n.natAbs:Int) = -n:=by omega
  rw [e]
  go_enter Tryz.func150,Tryz.ntmps150
  go_wp2
  go_ret
  exact ⟨rfl,rfl⟩
def frB (n d:Int):Bool:=decide (1<=d/\d<=100000 /\ -100000000<=n/\n<=100000000/\Int.gcd n d=1)
theorem Ph {n d:Int} (h:d<1\/100000<d):frB n d=false:=decide_eq_false (by omega)
theorem Pj {n d:Int} (h:n < -100000000\/100000000<n):frB n d=false:=decide_eq_false (by omega)
theorem Ux {n d:Int} (h1:1<=d) (h2:d<=100000) (h3 : -100000000<=n) (h4:n<=100000000):frB n d=((Int.gcd n.natAbs d:Int) == 1):=by
 have e:Int.gcd n.natAbs d=Int.gcd n d:=by simp [Int.gcd]
 rw [e]
 unfold frB
 by_cases h:Int.gcd n d=1
 ·simp [h,h1,h2,h3,h4]
 ·have h':((Int.gcd n d:Int) == 1)=false:=by simp;omega
  rw [h']
  exact decide_eq_false (by omega)
theorem qM {n d:Int}:frB n d=true↔1<=d/\d<=100000 /\ -100000000<=n/\n<=100000000/\Int.gcd n d=1:=by simp [frB]
set_option maxHeartbeats 1000000 in
theorem wE (w:World) (n d:Int):Calls Tryz.prog 94 #[.agg #[.int .i64 n,.int .i64 d]] w fun e w'=>e = .returned (.bool (frB n d))/\Below w.heap.size w w':=by
 by_cases hd:1<=d/\d<=100000
 ·obtain ⟨hd1,hd2⟩:=hd
  by_cases hn : -100000000<=n/\n<=100000000
  ·obtain ⟨hn1,hn2⟩:=hn
   rw [Ux hd1 hd2 hn1 hn2]
   go_enter Tryz.func94,Tryz.ntmps94
   go_wp2
   go_quiet ((first | (go_at_call 118;first | (with_reducible exact lV (gX _ _ _ _ (by omega) (by omega))) | (with_reducible exact jl (gX _ _ _ _ (by omega) (by omega))) | (with_reducible exact jm (gX _ _ _ _ (by omega) (by omega))) | (with_reducible exact lW (gX _ _ _ _ (by omega) (by omega))) | (with_reducible exact lX (gX _ _ _ _ (by omega) (by omega)))) | (go_at_call 147;first | (with_reducible exact lV (size_any _ _ (by omega) (by omega))) | (with_reducible exact jl (size_any _ _ (by omega) (by omega))) | (with_reducible exact jm (size_any _ _ (by omega) (by omega))) | (with_reducible exact lW (size_any _ _ (by omega) (by omega))) | (with_reducible exact lX (size_any _ _ (by omega) (by omega)))) | (go_at_call 146;first | (with_reducible exact lV (iD _ _ _ (by omega) (by omega) (by omega) (by omega))) | (with_reducible exact jl (iD _ _ _ (by omega) (by omega) (by omega) (by omega))) | (with_reducible exact jm (iD _ _ _ (by omega) (by omega) (by omega) (by omega))) | (with_reducible exact lW (iD _ _ _ (by omega) (by omega) (by omega) (by omega))) | (with_reducible exact lX (iD _ _ _ (by omega) (by omega) (by omega) (by omega))))))
   go_wp2
   go_ret
   exact ⟨rfl,below_drewN (by repeat (first | exact Below.refl _ _ | apply Below.drew | refine Below.setCell ?_ (by first | (simp;done) | (simp;omega)) _ | refine Below.alloc ?_ (by first | (simp;done) | (simp;omega)) _)) _⟩
  ·rw [Pj (by omega)]
   go_enter Tryz.func94,Tryz.ntmps94
   go_wp2
   go_quiet ((first | (go_at_call 118;first | (with_reducible exact lV (gX _ d _ _ (by omega) (by omega))) | (with_reducible exact jl (gX _ d _ _ (by omega) (by omega))) | (with_reducible exact jm (gX _ d _ _ (by omega) (by omega))) | (with_reducible exact lW (gX _ d _ _ (by omega) (by omega))) | (with_reducible exact lX (gX _ d _ _ (by omega) (by omega)))) | (go_at_call 118;first | (with_reducible exact lV (iL _ n _ _ (by omega))) | (with_reducible exact jl (iL _ n _ _ (by omega))) | (with_reducible exact jm (iL _ n _ _ (by omega))) | (with_reducible exact lW (iL _ n _ _ (by omega))) | (with_reducible exact lX (iL _ n _ _ (by omega))))))
   go_wp2
   go_ret
   exact ⟨rfl,below_drewN (by repeat (first | exact Below.refl _ _ | apply Below.drew | refine Below.setCell ?_ (by first | (simp;done) | (simp;omega)) _ | refine Below.alloc ?_ (by first | (simp;done) | (simp;omega)) _)) _⟩
 ·rw [Ph (by omega)]
  go_enter Tryz.func94,Tryz.ntmps94
  go_wp2
  go_quiet (((go_at_call 118;first | (with_reducible exact lV (iL _ d _ _ (by omega))) | (with_reducible exact jl (iL _ d _ _ (by omega))) | (with_reducible exact jm (iL _ d _ _ (by omega))) | (with_reducible exact lW (iL _ d _ _ (by omega))) | (with_reducible exact lX (iL _ d _ _ (by omega))))))
  go_wp2
  go_ret
  exact ⟨rfl,below_drewN (by repeat (first | exact Below.refl _ _ | apply Below.drew | refine Below.setCell ?_ (by first | (simp;done) | (simp;omega)) _ | refine Below.alloc ?_ (by first | (simp;done) | (simp;omega)) _)) _⟩
set_option maxHeartbeats 1000000 in
theorem Dj (w:World) (n d:Int):Calls Tryz.prog 99 #[.agg #[.int .i64 n,.int .i64 d]] w fun e w'=>e = .returned (.bool (frB n d))/\Below w.heap.size w w':=by
 by_cases hd:1<=d/\d<=100000
 ·obtain ⟨hd1,hd2⟩:=hd
  by_cases hn : -100000000<=n/\n<=100000000
  ·obtain ⟨hn1,hn2⟩:=hn
   rw [Ux hd1 hd2 hn1 hn2]
   go_enter Tryz.func99,Tryz.ntmps99
   go_wp2
   go_quiet ((first | (go_at_call 117;first | (with_reducible exact lV (jB _ _ _ _ (by omega) (by omega))) | (with_reducible exact jl (jB _ _ _ _ (by omega) (by omega))) | (with_reducible exact jm (jB _ _ _ _ (by omega) (by omega))) | (with_reducible exact lW (jB _ _ _ _ (by omega) (by omega))) | (with_reducible exact lX (jB _ _ _ _ (by omega) (by omega)))) | (go_at_call 150;first | (with_reducible exact lV (kG _ _ (by omega) (by omega))) | (with_reducible exact jl (kG _ _ (by omega) (by omega))) | (with_reducible exact jm (kG _ _ (by omega) (by omega))) | (with_reducible exact lW (kG _ _ (by omega) (by omega))) | (with_reducible exact lX (kG _ _ (by omega) (by omega)))) | (go_at_call 149;first | (with_reducible exact lV (kH _ _ _ (by omega) (by omega) (by omega) (by omega))) | (with_reducible exact jl (kH _ _ _ (by omega) (by omega) (by omega) (by omega))) | (with_reducible exact jm (kH _ _ _ (by omega) (by omega) (by omega) (by omega))) | (with_reducible exact lW (kH _ _ _ (by omega) (by omega) (by omega) (by omega))) | (with_reducible exact lX (kH _ _ _ (by omega) (by omega) (by omega) (by omega))))))
   go_wp2
   go_ret
   exact ⟨rfl,below_drewN (by repeat (first | exact Below.refl _ _ | apply Below.drew | refine Below.setCell ?_ (by first | (simp;done) | (simp;omega)) _ | refine Below.alloc ?_ (by first | (simp;done) | (simp;omega)) _)) _⟩
  ·rw [Pj (by omega)]
   go_enter Tryz.func99,Tryz.ntmps99
   go_wp2
   go_quiet ((first | (go_at_call 117;first | (with_reducible exact lV (jB _ d _ _ (by omega) (by omega))) | (with_reducible exact jl (jB _ d _ _ (by omega) (by omega))) | (with_reducible exact jm (jB _ d _ _ (by omega) (by omega))) | (with_reducible exact lW (jB _ d _ _ (by omega) (by omega))) | (with_reducible exact lX (jB _ d _ _ (by omega) (by omega)))) | (go_at_call 117;first | (with_reducible exact lV (kR _ n _ _ (by omega))) | (with_reducible exact jl (kR _ n _ _ (by omega))) | (with_reducible exact jm (kR _ n _ _ (by omega))) | (with_reducible exact lW (kR _ n _ _ (by omega))) | (with_reducible exact lX (kR _ n _ _ (by omega))))))
   go_wp2
   go_ret
   exact ⟨rfl,below_drewN (by repeat (first | exact Below.refl _ _ | apply Below.drew | refine Below.setCell ?_ (by first | (simp;done) | (simp;omega)) _ | refine Below.alloc ?_ (by first | (simp;done) | (simp;omega)) _)) _⟩
 ·rw [Ph (by omega)]
  go_enter Tryz.func99,Tryz.ntmps99
  go_wp2
  go_quiet (((go_at_call 117;first | (with_reducible exact lV (kR _ d _ _ (by omega))) | (with_reducible exact jl (kR _ d _ _ (by omega))) | (with_reducible exact jm (kR _ d _ _ (by omega))) | (with_reducible exact lW (kR _ d _ _ (by omega))) | (with_reducible exact lX (kR _ d _ _ (by omega))))))
  go_wp2
  go_ret
  exact ⟨rfl,below_drewN (by repeat (first | exact Below.refl _ _ | apply Below.drew | refine Below.setCell ?_ (by first | (simp;done) | (simp;omega)) _ | refine Below.alloc ?_ (by first | (simp;done) | (simp;omega)) _)) _⟩
def qN (n d:Int):Int:=n.tdiv (Int.gcd n d)
def qD (n d:Int):Int:=d / (Int.gcd n d)
def lF (n d:Int):Bool:=frB (qN n d) (qD n d)
def uX (n d:Int):Int×Int:=if lF n d then (qN n d,qD n d) else (0,0)
def frV (a:Int×Int):Value := .agg #[.int .i64 a.1,.int .i64 a.2]
theorem jH (n d:Int) (h:1<=d):1<=(Int.gcd n d:Int):=by
 have:0<Int.gcd n d:=Int.gcd_pos_of_ne_zero_right n (by omega)
 omega
theorem zo (n d:Int) (h:1<=d):(Int.gcd n d:Int)<=d:=Int.le_of_dvd (by omega) (Int.gcd_dvd_right ..)
theorem AU (n d:Int):Int.gcd n.natAbs d=Int.gcd n d:=by simp [Int.gcd]
theorem qZ (n g:Int) (hg:1<=g) (h1 : -9223372036854775807<=n) (h2:n<=9223372036854775807) : -9223372036854775807<=n.tdiv g/\n.tdiv g<=9223372036854775807:=by
 have h:=Int.natAbs_tdiv_le_natAbs n g
 omega
def mkV (n d:Int) (b:Bool):Value:=if b then .agg #[.int .i64 (qN n d),.int .i64 (qD n d)] else .agg #[.int .i64 0,.int .i64 0]
set_option maxHeartbeats 1000000 in
theorem ES (w:World) (n d:Int) (hd:1<=d) (hd2:d<=9223372036854775807) (h1 : -9223372036854775807<=n) (h2:n<=9223372036854775807) (hok:lF n d=true) :
  Calls Tryz.prog 126 #[.int .i64 n,.int .i64 d] w fun e w'=>e = .returned (.tuple #[mkV n d true,.bool true])/\Below w.heap.size w w':=by
 have hg1:=jH n d hd
 have hg2:=zo n d hd
 obtain ⟨g,hg⟩:∃ g:Int,(Int.gcd n d:Int)=g:=⟨_,rfl⟩
 have hmv:mkV n d true=if true then .agg #[.int .i64 (n.tdiv g),.int .i64 (d / g)] else .agg #[.int .i64 0,.int .i64 0]:=by rw [← hg];rfl
 rw [hmv]
 rw [hg] at hg1 hg2
 have hb:=qZ n g hg1 h1 h2
 have hq1:=hb.1
 have hq2:=hb.2
 have hz:(g == 0)=false:=by simp;omega
 have HE:Hid ((Int.gcd n.natAbs d:Int)=g):=by rw [AU];exact hg
 have hfb:Hid (frB (n.tdiv g) (d / g)=true):=by rw [← hg];exact hok
 clear hg hb hok hmv
 go_enter Tryz.func126,Tryz.ntmps126
 go_wp2_with (first
  | (go_at_call 147;refine (size_any _ _ (by omega) (by omega)).mono ?_;rintro e w' ⟨rfl,rfl⟩;dsimp only)
  | (go_at_call 146;refine (iD _ _ _ (by omega) (by omega) (by omega) (by omega)).mono ?_;rintro e w' ⟨rfl,⟨m,rfl⟩⟩;rw [HE.out];dsimp only))
 go_region
 go_wp2_with (go_at_call 94;refine (wE _ _ _).mono ?_;rintro e w2 ⟨rfl,hb⟩;rw [hfb.out];obtain ⟨hc,hf⟩:=OU hb;have hz:=hb.size;(try simp at hz);dsimp only)
 have B0:Below w.heap.size w w2:=Below.trans (by repeat (first | exact Below.refl _ _ | apply Below.drew | apply below_drewN | refine Below.alloc ?_ (by first | (simp;done) | (simp;omega)) _)) (hb.mono (by first | (simp;done) | (simp;omega)))
 have k0:w2.cell? ⟨w.heap.size,0,none⟩=some (.int .i64 0):=by rw [hc _ _ (by first | (simp;done) | (simp;omega))];simp [go_sem]
 have k1:w2.cell? ⟨w.heap.size,1,none⟩=some (.int .i64 0):=by rw [hc _ _ (by first | (simp;done) | (simp;omega))];simp [go_sem]
 have r0:=Bq (x:=(if true then .int .i64 (n.tdiv g) else .int .i64 0)) (y:=(if true then .int .i64 (d / g) else .int .i64 0)) k0 k1
 simp only [Bool.false_eq_true,if_true,if_false] at r0
 exact bodyPost_ret (v := .tuple #[if true then .agg #[.int .i64 (n.tdiv g),.int .i64 (d / g)] else .agg #[.int .i64 0,.int .i64 0],.bool true]) (by simp [results,Tryz.results126,go_sem,r0.1,r0.2]) rfl ⟨rfl,by repeat (first | exact B0 | refine Below.setCell ?_ (by simp) _)⟩
set_option maxHeartbeats 1000000 in
theorem Dx (w:World) (n d:Int) (hd:1<=d) (hd2:d<=9223372036854775807) (h1 : -9223372036854775807<=n) (h2:n<=9223372036854775807) (hok:lF n d=false) :
  Calls Tryz.prog 126 #[.int .i64 n,.int .i64 d] w fun e w'=>e = .returned (.tuple #[mkV n d false,.bool false])/\Below w.heap.size w w':=by
 have hg1:=jH n d hd
 have hg2:=zo n d hd
 obtain ⟨g,hg⟩:∃ g:Int,(Int.gcd n d:Int)=g:=⟨_,rfl⟩
 have hmv:mkV n d false=if false then .agg #[.int .i64 (n.tdiv g),.int .i64 (d / g)] else .agg #[.int .i64 0,.int .i64 0]:=by rw [← hg];rfl
 rw [hmv]
 rw [hg] at hg1 hg2
 have hb:=qZ n g hg1 h1 h2
 have hq1:=hb.1
 have hq2:=hb.2
 have hz:(g == 0)=false:=by simp;omega
 have HE:Hid ((Int.gcd n.natAbs d:Int)=g):=by rw [AU];exact hg
 have hfb:Hid (frB (n.tdiv g) (d / g)=false):=by rw [← hg];exact hok
 clear hg hb hok hmv
 go_enter Tryz.func126,Tryz.ntmps126
 go_wp2_with (first
  | (go_at_call 147;refine (size_any _ _ (by omega) (by omega)).mono ?_;rintro e w' ⟨rfl,rfl⟩;dsimp only)
  | (go_at_call 146;refine (iD _ _ _ (by omega) (by omega) (by omega) (by omega)).mono ?_;rintro e w' ⟨rfl,⟨m,rfl⟩⟩;rw [HE.out];dsimp only))
 go_region
 go_wp2_with (go_at_call 94;refine (wE _ _ _).mono ?_;rintro e w2 ⟨rfl,hb⟩;rw [hfb.out];obtain ⟨hc,hf⟩:=OU hb;have hz:=hb.size;(try simp at hz);dsimp only)
 have B0:Below w.heap.size w w2:=Below.trans (by repeat (first | exact Below.refl _ _ | apply Below.drew | apply below_drewN | refine Below.alloc ?_ (by first | (simp;done) | (simp;omega)) _)) (hb.mono (by first | (simp;done) | (simp;omega)))
 have k0:w2.cell? ⟨w.heap.size,0,none⟩=some (.int .i64 0):=by rw [hc _ _ (by first | (simp;done) | (simp;omega))];simp [go_sem]
 have k1:w2.cell? ⟨w.heap.size,1,none⟩=some (.int .i64 0):=by rw [hc _ _ (by first | (simp;done) | (simp;omega))];simp [go_sem]
 have r0:=Bq (x:=(if false then .int .i64 (n.tdiv g) else .int .i64 0)) (y:=(if false then .int .i64 (d / g) else .int .i64 0)) k0 k1
 simp only [Bool.false_eq_true,if_true,if_false] at r0
 exact bodyPost_ret (v := .tuple #[if false then .agg #[.int .i64 (n.tdiv g),.int .i64 (d / g)] else .agg #[.int .i64 0,.int .i64 0],.bool false]) (by simp [results,Tryz.results126,go_sem,r0.1,r0.2]) rfl ⟨rfl,by repeat (first | exact B0 | refine Below.setCell ?_ (by simp) _)⟩
set_option maxHeartbeats 1000000 in
theorem KE (w:World) (n d:Int) (hd:1<=d) (hd2:d<=9223372036854775807) (h1 : -9223372036854775807<=n) (h2:n<=9223372036854775807) (hok:lF n d=true) :
  Calls Tryz.prog 132 #[.int .i64 n,.int .i64 d] w fun e w'=>e = .returned (.tuple #[mkV n d true,.bool true])/\Below w.heap.size w w':=by
 have hg1:=jH n d hd
 have hg2:=zo n d hd
 obtain ⟨g,hg⟩:∃ g:Int,(Int.gcd n d:Int)=g:=⟨_,rfl⟩
 have hmv:mkV n d true=if true then .agg #[.int .i64 (n.tdiv g),.int .i64 (d / g)] else .agg #[.int .i64 0,.int .i64 0]:=by rw [← hg];rfl
 rw [hmv]
 rw [hg] at hg1 hg2
 have hb:=qZ n g hg1 h1 h2
 have hq1:=hb.1
 have hq2:=hb.2
 have hz:(g == 0)=false:=by simp;omega
 have HE:Hid ((Int.gcd n.natAbs d:Int)=g):=by rw [AU];exact hg
 have hfb:Hid (frB (n.tdiv g) (d / g)=true):=by rw [← hg];exact hok
 clear hg hb hok hmv
 go_enter Tryz.func132,Tryz.ntmps132
 go_wp2_with (first
  | (go_at_call 150;refine (kG _ _ (by omega) (by omega)).mono ?_;rintro e w' ⟨rfl,rfl⟩;dsimp only)
  | (go_at_call 149;refine (kH _ _ _ (by omega) (by omega) (by omega) (by omega)).mono ?_;rintro e w' ⟨rfl,⟨m,rfl⟩⟩;rw [HE.out];dsimp only))
 go_region
 go_wp2_with (go_at_call 99;refine (Dj _ _ _).mono ?_;rintro e w2 ⟨rfl,hb⟩;rw [hfb.out];obtain ⟨hc,hf⟩:=OU hb;have hz:=hb.size;(try simp at hz);dsimp only)
 have B0:Below w.heap.size w w2:=Below.trans (by repeat (first | exact Below.refl _ _ | apply Below.drew | apply below_drewN | refine Below.alloc ?_ (by first | (simp;done) | (simp;omega)) _)) (hb.mono (by first | (simp;done) | (simp;omega)))
 have k0:w2.cell? ⟨w.heap.size,0,none⟩=some (.int .i64 0):=by rw [hc _ _ (by first | (simp;done) | (simp;omega))];simp [go_sem]
 have k1:w2.cell? ⟨w.heap.size,1,none⟩=some (.int .i64 0):=by rw [hc _ _ (by first | (simp;done) | (simp;omega))];simp [go_sem]
 have r0:=Bq (x:=(if true then .int .i64 (n.tdiv g) else .int .i64 0)) (y:=(if true then .int .i64 (d / g) else .int .i64 0)) k0 k1
 simp only [Bool.false_eq_true,if_true,if_false] at r0
 exact bodyPost_ret (v := .tuple #[if true then .agg #[.int .i64 (n.tdiv g),.int .i64 (d / g)] else .agg #[.int .i64 0,.int .i64 0],.bool true]) (by simp [results,Tryz.results132,go_sem,r0.1,r0.2]) rfl ⟨rfl,by repeat (first | exact B0 | refine Below.setCell ?_ (by simp) _)⟩
set_option maxHeartbeats 1000000 in
theorem Ij (w:World) (n d:Int) (hd:1<=d) (hd2:d<=9223372036854775807) (h1 : -9223372036854775807<=n) (h2:n<=9223372036854775807) (hok:lF n d=false) :
  Calls Tryz.prog 132 #[.int .i64 n,.int .i64 d] w fun e w'=>e = .returned (.tuple #[mkV n d false,.bool false])/\Below w.heap.size w w':=by
 have hg1:=jH n d hd
 have hg2:=zo n d hd
 obtain ⟨g,hg⟩:∃ g:Int,(Int.gcd n d:Int)=g:=⟨_,rfl⟩
 have hmv:mkV n d false=if false then .agg #[.int .i64 (n.tdiv g),.int .i64 (d / g)] else .agg #[.int .i64 0,.int .i64 0]:=by rw [← hg];rfl
 rw [hmv]
 rw [hg] at hg1 hg2
 have hb:=qZ n g hg1 h1 h2
 have hq1:=hb.1
 have hq2:=hb.2
 have hz:(g == 0)=false:=by simp;omega
 have HE:Hid ((Int.gcd n.natAbs d:Int)=g):=by rw [AU];exact hg
 have hfb:Hid (frB (n.tdiv g) (d / g)=false):=by rw [← hg];exact hok
 clear hg hb hok hmv
 go_enter Tryz.func132,Tryz.ntmps132
 go_wp2_with (first
  | (go_at_call 150;refine (kG _ _ (by omega) (by omega)).mono ?_;rintro e w' ⟨rfl,rfl⟩;dsimp only)
  | (go_at_call 149;refine (kH _ _ _ (by omega) (by omega) (by omega) (by omega)).mono ?_;rintro e w' ⟨rfl,⟨m,rfl⟩⟩;rw [HE.out];dsimp only))
 go_region
 go_wp2_with (go_at_call 99;refine (Dj _ _ _).mono ?_;rintro e w2 ⟨rfl,hb⟩;rw [hfb.out];obtain ⟨hc,hf⟩:=OU hb;have hz:=hb.size;(try simp at hz);dsimp only)
 have B0:Below w.heap.size w w2:=Below.trans (by repeat (first | exact Below.refl _ _ | apply Below.drew | apply below_drewN | refine Below.alloc ?_ (by first | (simp;done) | (simp;omega)) _)) (hb.mono (by first | (simp;done) | (simp;omega)))
 have k0:w2.cell? ⟨w.heap.size,0,none⟩=some (.int .i64 0):=by rw [hc _ _ (by first | (simp;done) | (simp;omega))];simp [go_sem]
 have k1:w2.cell? ⟨w.heap.size,1,none⟩=some (.int .i64 0):=by rw [hc _ _ (by first | (simp;done) | (simp;omega))];simp [go_sem]
 have r0:=Bq (x:=(if false then .int .i64 (n.tdiv g) else .int .i64 0)) (y:=(if false then .int .i64 (d / g) else .int .i64 0)) k0 k1
 simp only [Bool.false_eq_true,if_true,if_false] at r0
 exact bodyPost_ret (v := .tuple #[if false then .agg #[.int .i64 (n.tdiv g),.int .i64 (d / g)] else .agg #[.int .i64 0,.int .i64 0],.bool false]) (by simp [results,Tryz.results132,go_sem,r0.1,r0.2]) rfl ⟨rfl,by repeat (first | exact B0 | refine Below.setCell ?_ (by simp) _)⟩
theorem VA (n d:Int):mkV n d (lF n d)=frV (uX n d):=by
 unfold mkV uX frV
 cases lF n d<;>rfl
theorem Iq (w:World) (n d:Int) (hd:1<=d) (hd2:d<=9223372036854775807) (h1 : -9223372036854775807<=n) (h2:n<=9223372036854775807) :
  Calls Tryz.prog 126 #[.int .i64 n,.int .i64 d] w fun e w'=>e = .returned (.tuple #[frV (uX n d),.bool (lF n d)])/\Below w.heap.size w w':=by
 rw [← VA]
 cases h:lF n d
 ·exact Dx w n d hd hd2 h1 h2 h
 ·exact ES w n d hd hd2 h1 h2 h
theorem Nu (w:World) (n d:Int) (hd:1<=d) (hd2:d<=9223372036854775807) (h1 : -9223372036854775807<=n) (h2:n<=9223372036854775807) :
  Calls Tryz.prog 132 #[.int .i64 n,.int .i64 d] w fun e w'=>e = .returned (.tuple #[frV (uX n d),.bool (lF n d)])/\Below w.heap.size w w':=by
 rw [← VA]
 cases h:lF n d
 ·exact Ij w n d hd hd2 h1 h2 h
 ·exact KE w n d hd hd2 h1 h2 h
def BG (w:World) (b:Nat):Prop:=w.heap[b]? = some (.cells #[.int .i64 0,.int .i64 0] 28 (0,0))
theorem BG.lt {w:World} {b:Nat} (h:BG w b):b<w.heap.size:=(Array.getElem?_eq_some_iff.1 h).1
theorem BG.drewN {w:World} {b:Nat} (h:BG w b) (n:Nat):BG (w.drewN n) b:=h
theorem BG.cells {w:World} {b:Nat} (h:BG w b):(w.cell? ⟨b,0,none⟩=some (.int .i64 0)/\w.cell? ⟨b,1,none⟩=some (.int .i64 0))/\w.frozen? ⟨b,0,none⟩=false/\w.frozen? ⟨b,1,none⟩=false :=
 ⟨⟨cell_of_row w b 0 _ _ _ h,cell_of_row w b 1 _ _ _ h⟩,frozen_of_row w b 0 _ _ h,frozen_of_row w b 1 _ _ h⟩
end Go.Proofs.YtkcelmnbfbehbaaGreat
namespace Go.Proofs.YtkcelmnbfbehbaaGreat
open Go Go.RowKit Am
theorem JE {P:Program} {f:Nat} {args:List AV} {v:Value} {r:AV} (hent:∀ (av:Array Value) (W:World),(callFunc f av).run P W = .ok (.enter f av) W) (hr:∀ M:Am.Mem,r.rel lU M v)
  (h:∀ (M:Am.Mem) (w:World) (us:List Value),Mem.in_ M w->gu M args us->Calls P f us.toArray w fun e w'=>e = .returned v/\Below w.heap.size w w'):Does P f args (.imm r):=by
 refine ⟨hent,fun M w us hm ha=>(h M w us hm ha).mono fun e w' ⟨h1,h2⟩=>⟨v,M,h1,Am.Mem.le_refl _,fun ad u hu=>⟨?_,.inl hu⟩,hr M,h2⟩⟩
 have h3:=hm ad u hu
 exact (h2.cell (block_lt h3)).trans h3
abbrev frT (a:Int×Int):TV := .agg [.b (.val (.int .i64 a.1)),.b (.val (.int .i64 a.2))]
abbrev blT (b:Bool):TV := .one (.b (.val (.bool b)))
theorem Pm {M:Am.Mem} (a:Int×Int) (b:Bool):(AV.tup [frT a,blT b]).rel lU M (.tuple #[frV a,.bool b]) :=
 ⟨[frV a,.bool b],rfl,rfl,fun j hj hj'=>by
  match j with
  | 0=>exact ac0 (M:=M) (φ:=lU) rfl rfl
  | 1=>exact rfl
  | j+2=>exact absurd hj (by simp)⟩
theorem Dw (n d:Int) (hd:1<=d) (hd2:d<=9223372036854775807) (h1 : -9223372036854775807<=n) (h2:n<=9223372036854775807):Does Tryz.prog 126 [.int n,.int d] (.imm (.tup [frT (uX n d),blT (lF n d)])) :=
 JE (v := .tuple #[frV (uX n d),.bool (lF n d)]) (fun _ _=>by kernel_rfl) (fun M=>Pm _ _) fun M w us hm ha=>by
  obtain ⟨u,us',rfl,k1,k2⟩:=dh ha
  obtain ⟨u',us'',rfl,k3,k4⟩:=dh k2
  obtain rfl:=iq k4
  obtain rfl:u = .int .i64 n:=k1
  obtain rfl:u' = .int .i64 d:=k3
  exact Iq w n d hd hd2 h1 h2
theorem KD (n d:Int) (hd:1<=d) (hd2:d<=9223372036854775807) (h1 : -9223372036854775807<=n) (h2:n<=9223372036854775807):Does Tryz.prog 132 [.int n,.int d] (.imm (.tup [frT (uX n d),blT (lF n d)])) :=
 JE (v := .tuple #[frV (uX n d),.bool (lF n d)]) (fun _ _=>by kernel_rfl) (fun M=>Pm _ _) fun M w us hm ha=>by
  obtain ⟨u,us',rfl,k1,k2⟩:=dh ha
  obtain ⟨u',us'',rfl,k3,k4⟩:=dh k2
  obtain rfl:=iq k4
  obtain rfl:u = .int .i64 n:=k1
  obtain rfl:u' = .int .i64 d:=k3
  exact Nu w n d hd hd2 h1 h2
theorem aae {M:Am.Mem} {c:Cn} {u:Value} (h0:c.len=0) (hok:c.ok) (h:(AV.val (.slice none 0 0)).rel lU M u):(AV.sl c).rel lU M u:=by
 obtain rfl:u = .slice none 0 0:=h
 exact Bd h0 hok
end Go.Proofs.YtkcelmnbfbehbaaGreat
