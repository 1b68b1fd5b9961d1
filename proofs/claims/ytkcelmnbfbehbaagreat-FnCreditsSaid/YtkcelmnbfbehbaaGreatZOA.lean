/- Tables of distances: the plain laws. Conditions: none. -/
import Derived.Test.YtkcelmnbfbehbaaGreatGBA
set_option linter.all false
namespace Go.Proofs.YtkcelmnbfbehbaaGreat
def at2 (m:List (List Int)) (x y:Nat):Int:=(m.getD x []).getD y 0
theorem MN {m:List (List Int)} {x y:Nat} (hx:x<m.length) (hy:y<m[x].length):at2 m x y=m[x][y]:=by
 unfold at2
 rw [List.getD_eq_getElem?_getD,List.getD_eq_getElem?_getD,List.getElem?_eq_getElem hx]
 show ((m[x])[y]?).getD 0=_
 rw [List.getElem?_eq_getElem hy]
 rfl
def kR (n:Nat) (p:Nat->Bool):Bool:=(List.range n).all p
theorem bG {n:Nat} {p:Nat->Bool}:kR n p=true↔∀ i,i<n->p i=true:=by simp [kR]
theorem pV {n:Nat} {p:Nat->Bool} {i:Nat} (hi:i<n) (h:p i=false):kR n p=false:=by
 rw [Bool.eq_false_iff]
 intro hh
 rw [bG.1 hh i hi] at h
 cases h
theorem dA {p:Nat->Bool} {k:Nat} (h:∀ i,i<k->p i=true) (hk:p k=true):∀ i,i<k+1->p i=true:=fun i hi=>by
 rcases Nat.lt_or_ge i k with h1 | h1
 ·exact h i h1
 ·have:i=k:=by omega
  subst this
  exact hk
def fV (m:List (List Int)) (x y:Nat):Bool:=decide (at2 m x y=at2 m y x/\(x=y->at2 m x y=0)/\(x≠y->1<=at2 m x y/\at2 m x y<=99))
theorem vY {m:List (List Int)} {x y:Nat}:fV m x y=true↔at2 m x y=at2 m y x/\(x=y->at2 m x y=0)/\(x≠y->1<=at2 m x y/\at2 m x y<=99):=by unfold fV;exact decide_eq_true_iff
def sqB (m:List (List Int)):Bool:=m.all fun r=>r.length == m.length
theorem CV {m:List (List Int)}:sqB m=true↔∀ r∈m,r.length=m.length:=by simp [sqB]
theorem acA {m:List (List Int)} {k:Nat} (hk:k<m.length) (h:m[k].length≠m.length):sqB m=false:=by
 rw [Bool.eq_false_iff]
 intro hh
 exact h (CV.1 hh _ (List.getElem_mem hk))
def zi (m:List (List Int)):Bool:=kR m.length fun x=>kR m.length (fV m x)
theorem Q8 {m:List (List Int)} {x y:Nat} (hx:x<m.length) (hy:y<m.length) (h:fV m x y=false):zi m=false:=pV hx (pV hy h)
def jP (m:List (List Int)) (x y z:Nat):Bool:=decide (at2 m x z<=at2 m x y+at2 m y z)
def nM (m:List (List Int)):Bool:=kR m.length fun x=>kR m.length fun y=>kR m.length (jP m x y)
theorem Ll {m:List (List Int)} {x y z:Nat} (hx:x<m.length) (hy:y<m.length) (hz:z<m.length) (h:jP m x y z=false):nM m=false:=pV hx (pV hy (pV hz h))
theorem Ht {m:List (List Int)} (h:zi m=true) {x y:Nat} (hx:x<m.length) (hy:y<m.length):0<=at2 m x y/\at2 m x y<=99:=by
 have:=vY.1 (bG.1 (bG.1 h x hx) y hy)
 by_cases e:x=y
 ·have:=this.2.1 e
  omega
 ·have:=this.2.2 e
  omega
end Go.Proofs.YtkcelmnbfbehbaaGreat
namespace Go.Proofs.YtkcelmnbfbehbaaGreat
open Go.RowKit
def allIn (lo hi:Int) (xs:List Int):Bool:=xs.all fun x=>rng x lo hi
theorem pU {lo hi:Int} {xs:List Int}:allIn lo hi xs=true↔∀ x∈xs,lo<=x/\x<=hi:=by simp [allIn,rng]
theorem JE {lo hi:Int} {xs:List Int} {x:Int} (h:x∈xs) (hx:rng x lo hi=false):allIn lo hi xs=false:=by
 rw [Bool.eq_false_iff]
 intro hh
 have:=pU.1 hh x h
 rw [uV this.1 this.2] at hx
 cases hx
theorem aZ {w w':World} {a:Addr} {v:Value} (hb:Below w.heap.size w w') (h:w.cell? a=some v):w'.cell? a=some v:=(hb.cell (block_lt h)).trans h
end Go.Proofs.YtkcelmnbfbehbaaGreat
namespace Go.Proofs.YtkcelmnbfbehbaaGreat
def zk (n:Nat) (s:List (List Int)) (r:Nat) (x:Int):Bool:=rng x 0 ((n:Int)-1) && decide (0<=at2 s r x.toNat)
def nV (n:Nat) (s:List (List Int)) (row:List Int):Bool:=(row.length == s.length) && kR row.length fun r=>zk n s r (row.getD r 0)
def aeO (m s:List (List Int)) (next:List (List Int)):Bool:=(next.length == m.length) && next.all (nV m.length s)
theorem LU {n:Nat} {s:List (List Int)} {row:List Int} {r:Nat} (hr:r<row.length) (h:zk n s r row[r]=false):nV n s row=false:=by
 unfold nV
 rw [pV hr (by rw [List.getD_eq_getElem?_getD,List.getElem?_eq_getElem hr];exact h)]
 simp
theorem Hg {n:Nat} {s:List (List Int)} {row:List Int} (h:row.length≠s.length):nV n s row=false:=by unfold nV;simp [h]
theorem AA {n:Nat} {s:List (List Int)} {row:List Int} (h:row.length=s.length) (h2:∀ r (hr:r<row.length),zk n s r row[r]=true):nV n s row=true:=by
 unfold nV
 rw [bG.2 fun r hr=>by rw [List.getD_eq_getElem?_getD,List.getElem?_eq_getElem hr];exact h2 r hr]
 simp [h]
end Go.Proofs.YtkcelmnbfbehbaaGreat
namespace Go.Proofs.YtkcelmnbfbehbaaGreat
open Go.RowKit
theorem Ky (a b:Int) (ha:0<=a) (hb:0<b):Int.gcd b (a % b)=Int.gcd a b:=by
 obtain ⟨n,rfl⟩:=Int.eq_ofNat_of_zero_le ha
 obtain ⟨m,rfl⟩:=Int.eq_ofNat_of_zero_le (Int.le_of_lt hb)
 rw [← Int.natCast_emod,Int.gcd_natCast_natCast,Int.gcd_natCast_natCast,Nat.gcd_comm n m,Nat.gcd_rec m n,Nat.gcd_comm]
set_option maxHeartbeats 400000 in
theorem kV (w:World) (a b:Int) (ha:0<=a) (hb:0<=b) (ha2:a<=9223372036854775807) (hb2:b<=9223372036854775807) :
  Calls Tryz.prog 146 #[.int .i64 a,.int .i64 b] w fun e w'=>e = .returned (.int .i64 (Int.gcd a b))/\Qt w w':=by
 go_enter Tryz.func146,Tryz.ntmps146
 go_wp2
 go_loopw [0,1] (fun u v wr=>∃ x y:Int,0<=x/\0<=y/\x<=9223372036854775807/\y<=9223372036854775807/\u = .int .i64 x/\v = .int .i64 y/\Hid (Int.gcd x y=Int.gcd a b)/\Qt w wr) (fun _ v _=>(intOf v).toNat)
 case atStart=>exact ⟨a,b,ha,hb,ha2,hb2,rfl,rfl,rfl,Qt.refl _⟩
 case round =>
  obtain ⟨x,y,hx,hy,hx2,hy2,rfl,rfl,hg,n,rfl⟩:=hrel
  by_cases h:0<y
  ·have hs:=hide (Ky x y hx h)
   have h1:(y == 0)=false:=by simp;omega
   have h2:=Int.emod_nonneg x (show y≠0 by omega)
   have h3:=Int.emod_lt_of_pos x h
   go_wp2
   go_quiet (fail)
   go_wp2
   go_roundw
   case rel=>exact ⟨y,x % y,hy,h2,hy2,by omega,rfl,rfl,hs.out.trans hg.out,by first | exact ⟨_,rfl⟩ | exact ⟨_,World.drewN_drewN _ _ _⟩⟩
   case measure=>simp [intOf];omega
  ·obtain rfl:y=0:=by omega
   go_wp2
   go_ret
   refine ⟨?_,by first | exact ⟨_,rfl⟩ | exact ⟨_,World.drewN_drewN _ _ _⟩⟩
   have h1:=hg.out
   rw [Int.gcd_zero_right] at h1
   show Ending.returned (.int .i64 x)=_
   rw [← h1,Int.natAbs_of_nonneg hx]
set_option maxHeartbeats 400000 in
theorem ku (w:World) (a b:Int) (ha:0<=a) (hb:0<=b) (ha2:a<=9223372036854775807) (hb2:b<=9223372036854775807) :
  Calls Tryz.prog 149 #[.int .i64 a,.int .i64 b] w fun e w'=>e = .returned (.int .i64 (Int.gcd a b))/\Qt w w':=by
 go_enter Tryz.func149,Tryz.ntmps149
 go_wp2
 go_loopw [0,1] (fun u v wr=>∃ x y:Int,0<=x/\0<=y/\x<=9223372036854775807/\y<=9223372036854775807/\u = .int .i64 x/\v = .int .i64 y/\Hid (Int.gcd x y=Int.gcd a b)/\Qt w wr) (fun _ v _=>(intOf v).toNat)
 case atStart=>exact ⟨a,b,ha,hb,ha2,hb2,rfl,rfl,rfl,Qt.refl _⟩
 case round =>
  obtain ⟨x,y,hx,hy,hx2,hy2,rfl,rfl,hg,n,rfl⟩:=hrel
  by_cases h:0<y
  ·have hs:=hide (Ky x y hx h)
   have h1:(y == 0)=false:=by simp;omega
   have h2:=Int.emod_nonneg x (show y≠0 by omega)
   have h3:=Int.emod_lt_of_pos x h
   go_wp2
   go_quiet (fail)
   go_wp2
   go_roundw
   case rel=>exact ⟨y,x % y,hy,h2,hy2,by omega,rfl,rfl,hs.out.trans hg.out,by first | exact ⟨_,rfl⟩ | exact ⟨_,World.drewN_drewN _ _ _⟩⟩
   case measure=>simp [intOf];omega
  ·obtain rfl:y=0:=by omega
   go_wp2
   go_ret
   refine ⟨?_,by first | exact ⟨_,rfl⟩ | exact ⟨_,World.drewN_drewN _ _ _⟩⟩
   have h1:=hg.out
   rw [Int.gcd_zero_right] at h1
   show Ending.returned (.int .i64 x)=_
   rw [← h1,Int.natAbs_of_nonneg hx]
theorem size_any (w:World) (n:Int) (h1 : -9223372036854775807<=n) (h2:n<=9223372036854775807):Calls Tryz.prog 147 #[.int .i64 n] w fun e w'=>e = .returned (.int .i64 n.natAbs)/\w=w':=by
 by_cases h:0<=n
 ·go_enter Tryz.func147,Tryz.ntmps147
  go_wp2
  go_ret
  refine ⟨?_,rfl⟩
  show Ending.returned (.int .i64 _)=_
  congr 2
  omega
 ·go_enter Tryz.func147,Tryz.ntmps147
  go_wp2
  go_ret
  refine ⟨?_,rfl⟩
  show Ending.returned (.int .i64 _)=_
  congr 2
  omega
theorem jZ (w:World) (n:Int) (h1 : -9223372036854775807<=n) (h2:n<=9223372036854775807):Calls Tryz.prog 150 #[.int .i64 n] w fun e w'=>e = .returned (.int .i64 n.natAbs)/\w=w':=by
 by_cases h:n > -n
 ·have e:(n.natAbs:Int)=n:=by omega
  rw [e]
  go_enter Tryz.func150,Tryz.ntmps150
  go_wp2
  go_ret
  exact ⟨rfl,rfl⟩
 ·have e:(n.natAbs:Int) = -n:=by omega
  rw [e]
  go_enter Tryz.func150,Tryz.ntmps150
  go_wp2
  go_ret
  exact ⟨rfl,rfl⟩
def frB (n d:Int):Bool:=decide (1<=d/\d<=100000 /\ -100000000<=n/\n<=100000000/\Int.gcd n d=1)
theorem PW {n d:Int} (h:d<1\/100000<d):frB n d=false:=decide_eq_false (by omega)
theorem PX {n d:Int} (h:n < -100000000\/100000000<n):frB n d=false:=decide_eq_false (by omega)
theorem UR {n d:Int} (h1:1<=d) (h2:d<=100000) (h3 : -100000000<=n) (h4:n<=100000000):frB n d=((Int.gcd n.natAbs d:Int) == 1):=by
 have e:Int.gcd n.natAbs d=Int.gcd n d:=by simp [Int.gcd]
 rw [e]
 unfold frB
 by_cases h:Int.gcd n d=1
 ·simp [h,h1,h2,h3,h4]
 ·have h':((Int.gcd n d:Int) == 1)=false:=by simp;omega
  rw [h']
  exact decide_eq_false (by omega)
theorem lX {n d:Int}:frB n d=true↔1<=d/\d<=100000 /\ -100000000<=n/\n<=100000000/\Int.gcd n d=1:=by simp [frB]
set_option maxHeartbeats 1000000 in
theorem NC (w:World) (n d:Int):Calls Tryz.prog 94 #[.agg #[.int .i64 n,.int .i64 d]] w fun e w'=>e = .returned (.bool (frB n d))/\Below w.heap.size w w':=by
 by_cases hd:1<=d/\d<=100000
 ·obtain ⟨hd1,hd2⟩:=hd
  by_cases hn : -100000000<=n/\n<=100000000
  ·obtain ⟨hn1,hn2⟩:=hn
   rw [UR hd1 hd2 hn1 hn2]
   go_enter Tryz.func94,Tryz.ntmps94
   go_wp2
   go_quiet ((first | (go_at_call 118;first | (with_reducible exact lK (gQ _ _ _ _ (by omega) (by omega))) | (with_reducible exact je (gQ _ _ _ _ (by omega) (by omega))) | (with_reducible exact jf (gQ _ _ _ _ (by omega) (by omega))) | (with_reducible exact lM (gQ _ _ _ _ (by omega) (by omega))) | (with_reducible exact lN (gQ _ _ _ _ (by omega) (by omega)))) | (go_at_call 147;first | (with_reducible exact lK (size_any _ _ (by omega) (by omega))) | (with_reducible exact je (size_any _ _ (by omega) (by omega))) | (with_reducible exact jf (size_any _ _ (by omega) (by omega))) | (with_reducible exact lM (size_any _ _ (by omega) (by omega))) | (with_reducible exact lN (size_any _ _ (by omega) (by omega)))) | (go_at_call 146;first | (with_reducible exact lK (kV _ _ _ (by omega) (by omega) (by omega) (by omega))) | (with_reducible exact je (kV _ _ _ (by omega) (by omega) (by omega) (by omega))) | (with_reducible exact jf (kV _ _ _ (by omega) (by omega) (by omega) (by omega))) | (with_reducible exact lM (kV _ _ _ (by omega) (by omega) (by omega) (by omega))) | (with_reducible exact lN (kV _ _ _ (by omega) (by omega) (by omega) (by omega))))))
   go_wp2
   go_ret
   exact ⟨rfl,below_drewN (by repeat (first | exact Below.refl _ _ | apply Below.drew | refine Below.setCell ?_ (by first | (simp;done) | (simp;omega)) _ | refine Below.alloc ?_ (by first | (simp;done) | (simp;omega)) _)) _⟩
  ·rw [PX (by omega)]
   go_enter Tryz.func94,Tryz.ntmps94
   go_wp2
   go_quiet ((first | (go_at_call 118;first | (with_reducible exact lK (gQ _ d _ _ (by omega) (by omega))) | (with_reducible exact je (gQ _ d _ _ (by omega) (by omega))) | (with_reducible exact jf (gQ _ d _ _ (by omega) (by omega))) | (with_reducible exact lM (gQ _ d _ _ (by omega) (by omega))) | (with_reducible exact lN (gQ _ d _ _ (by omega) (by omega)))) | (go_at_call 118;first | (with_reducible exact lK (iK _ n _ _ (by omega))) | (with_reducible exact je (iK _ n _ _ (by omega))) | (with_reducible exact jf (iK _ n _ _ (by omega))) | (with_reducible exact lM (iK _ n _ _ (by omega))) | (with_reducible exact lN (iK _ n _ _ (by omega))))))
   go_wp2
   go_ret
   exact ⟨rfl,below_drewN (by repeat (first | exact Below.refl _ _ | apply Below.drew | refine Below.setCell ?_ (by first | (simp;done) | (simp;omega)) _ | refine Below.alloc ?_ (by first | (simp;done) | (simp;omega)) _)) _⟩
 ·rw [PW (by omega)]
  go_enter Tryz.func94,Tryz.ntmps94
  go_wp2
  go_quiet (((go_at_call 118;first | (with_reducible exact lK (iK _ d _ _ (by omega))) | (with_reducible exact je (iK _ d _ _ (by omega))) | (with_reducible exact jf (iK _ d _ _ (by omega))) | (with_reducible exact lM (iK _ d _ _ (by omega))) | (with_reducible exact lN (iK _ d _ _ (by omega))))))
  go_wp2
  go_ret
  exact ⟨rfl,below_drewN (by repeat (first | exact Below.refl _ _ | apply Below.drew | refine Below.setCell ?_ (by first | (simp;done) | (simp;omega)) _ | refine Below.alloc ?_ (by first | (simp;done) | (simp;omega)) _)) _⟩
set_option maxHeartbeats 1000000 in
theorem wK (w:World) (n d:Int):Calls Tryz.prog 99 #[.agg #[.int .i64 n,.int .i64 d]] w fun e w'=>e = .returned (.bool (frB n d))/\Below w.heap.size w w':=by
 by_cases hd:1<=d/\d<=100000
 ·obtain ⟨hd1,hd2⟩:=hd
  by_cases hn : -100000000<=n/\n<=100000000
  ·obtain ⟨hn1,hn2⟩:=hn
   rw [UR hd1 hd2 hn1 hn2]
   go_enter Tryz.func99,Tryz.ntmps99
   go_wp2
   go_quiet ((first | (go_at_call 117;first | (with_reducible exact lK (jl _ _ _ _ (by omega) (by omega))) | (with_reducible exact je (jl _ _ _ _ (by omega) (by omega))) | (with_reducible exact jf (jl _ _ _ _ (by omega) (by omega))) | (with_reducible exact lM (jl _ _ _ _ (by omega) (by omega))) | (with_reducible exact lN (jl _ _ _ _ (by omega) (by omega)))) | (go_at_call 150;first | (with_reducible exact lK (jZ _ _ (by omega) (by omega))) | (with_reducible exact je (jZ _ _ (by omega) (by omega))) | (with_reducible exact jf (jZ _ _ (by omega) (by omega))) | (with_reducible exact lM (jZ _ _ (by omega) (by omega))) | (with_reducible exact lN (jZ _ _ (by omega) (by omega)))) | (go_at_call 149;first | (with_reducible exact lK (ku _ _ _ (by omega) (by omega) (by omega) (by omega))) | (with_reducible exact je (ku _ _ _ (by omega) (by omega) (by omega) (by omega))) | (with_reducible exact jf (ku _ _ _ (by omega) (by omega) (by omega) (by omega))) | (with_reducible exact lM (ku _ _ _ (by omega) (by omega) (by omega) (by omega))) | (with_reducible exact lN (ku _ _ _ (by omega) (by omega) (by omega) (by omega))))))
   go_wp2
   go_ret
   exact ⟨rfl,below_drewN (by repeat (first | exact Below.refl _ _ | apply Below.drew | refine Below.setCell ?_ (by first | (simp;done) | (simp;omega)) _ | refine Below.alloc ?_ (by first | (simp;done) | (simp;omega)) _)) _⟩
  ·rw [PX (by omega)]
   go_enter Tryz.func99,Tryz.ntmps99
   go_wp2
   go_quiet ((first | (go_at_call 117;first | (with_reducible exact lK (jl _ d _ _ (by omega) (by omega))) | (with_reducible exact je (jl _ d _ _ (by omega) (by omega))) | (with_reducible exact jf (jl _ d _ _ (by omega) (by omega))) | (with_reducible exact lM (jl _ d _ _ (by omega) (by omega))) | (with_reducible exact lN (jl _ d _ _ (by omega) (by omega)))) | (go_at_call 117;first | (with_reducible exact lK (kM _ n _ _ (by omega))) | (with_reducible exact je (kM _ n _ _ (by omega))) | (with_reducible exact jf (kM _ n _ _ (by omega))) | (with_reducible exact lM (kM _ n _ _ (by omega))) | (with_reducible exact lN (kM _ n _ _ (by omega))))))
   go_wp2
   go_ret
   exact ⟨rfl,below_drewN (by repeat (first | exact Below.refl _ _ | apply Below.drew | refine Below.setCell ?_ (by first | (simp;done) | (simp;omega)) _ | refine Below.alloc ?_ (by first | (simp;done) | (simp;omega)) _)) _⟩
 ·rw [PW (by omega)]
  go_enter Tryz.func99,Tryz.ntmps99
  go_wp2
  go_quiet (((go_at_call 117;first | (with_reducible exact lK (kM _ d _ _ (by omega))) | (with_reducible exact je (kM _ d _ _ (by omega))) | (with_reducible exact jf (kM _ d _ _ (by omega))) | (with_reducible exact lM (kM _ d _ _ (by omega))) | (with_reducible exact lN (kM _ d _ _ (by omega))))))
  go_wp2
  go_ret
  exact ⟨rfl,below_drewN (by repeat (first | exact Below.refl _ _ | apply Below.drew | refine Below.setCell ?_ (by first | (simp;done) | (simp;omega)) _ | refine Below.alloc ?_ (by first | (simp;done) | (simp;omega)) _)) _⟩
def qN (n d:Int):Int:=n.tdiv (Int.gcd n d)
def qD (n d:Int):Int:=d / (Int.gcd n d)
def mD (n d:Int):Bool:=frB (qN n d) (qD n d)
def vw (n d:Int):Int×Int:=if mD n d then (qN n d,qD n d) else (0,0)
def frV (a:Int×Int):Value := .agg #[.int .i64 a.1,.int .i64 a.2]
theorem oD (n d:Int) (h:1<=d):1<=(Int.gcd n d:Int):=by
 have:0<Int.gcd n d:=Int.gcd_pos_of_ne_zero_right n (by omega)
 omega
theorem U8 (n d:Int) (h:1<=d):(Int.gcd n d:Int)<=d:=Int.le_of_dvd (by omega) (Int.gcd_dvd_right ..)
theorem P6 (n d:Int):Int.gcd n.natAbs d=Int.gcd n d:=by simp [Int.gcd]
theorem Fv (n g:Int) (hg:1<=g) (h1 : -9223372036854775807<=n) (h2:n<=9223372036854775807) : -9223372036854775807<=n.tdiv g/\n.tdiv g<=9223372036854775807:=by
 have h:=Int.natAbs_tdiv_le_natAbs n g
 omega
def mkV (n d:Int) (b:Bool):Value:=if b then .agg #[.int .i64 (qN n d),.int .i64 (qD n d)] else .agg #[.int .i64 0,.int .i64 0]
set_option maxHeartbeats 1000000 in
theorem KR (w:World) (n d:Int) (hd:1<=d) (hd2:d<=9223372036854775807) (h1 : -9223372036854775807<=n) (h2:n<=9223372036854775807) (hok:mD n d=true) :
  Calls Tryz.prog 132 #[.int .i64 n,.int .i64 d] w fun e w'=>e = .returned (.tuple #[mkV n d true,.bool true])/\Below w.heap.size w w':=by
 have hg1:=oD n d hd
 have hg2:=U8 n d hd
 obtain ⟨g,hg⟩:∃ g:Int,(Int.gcd n d:Int)=g:=⟨_,rfl⟩
 have hmv:mkV n d true=if true then .agg #[.int .i64 (n.tdiv g),.int .i64 (d / g)] else .agg #[.int .i64 0,.int .i64 0]:=by rw [← hg];rfl
 rw [hmv]
 rw [hg] at hg1 hg2
 have hb:=Fv n g hg1 h1 h2
 have hq1:=hb.1
 have hq2:=hb.2
 have hz:(g == 0)=false:=by simp;omega
 have HE:Hid ((Int.gcd n.natAbs d:Int)=g):=by rw [P6];exact hg
 have hfb:Hid (frB (n.tdiv g) (d / g)=true):=by rw [← hg];exact hok
 clear hg hb hok hmv
 go_enter Tryz.func132,Tryz.ntmps132
 go_wp2_with (first
  | (go_at_call 150;refine (jZ _ _ (by omega) (by omega)).mono ?_;rintro e w' ⟨rfl,rfl⟩;dsimp only)
  | (go_at_call 149;refine (ku _ _ _ (by omega) (by omega) (by omega) (by omega)).mono ?_;rintro e w' ⟨rfl,⟨m,rfl⟩⟩;rw [HE.out];dsimp only))
 go_region
 go_wp2_with (go_at_call 99;refine (wK _ _ _).mono ?_;rintro e w2 ⟨rfl,hb⟩;rw [hfb.out];obtain ⟨hc,hf⟩:=YW hb;have hz:=hb.size;(try simp at hz);dsimp only)
 have B0:Below w.heap.size w w2:=Below.trans (by repeat (first | exact Below.refl _ _ | apply Below.drew | apply below_drewN | refine Below.alloc ?_ (by first | (simp;done) | (simp;omega)) _)) (hb.mono (by first | (simp;done) | (simp;omega)))
 have k0:w2.cell? ⟨w.heap.size,0,none⟩=some (.int .i64 0):=by rw [hc _ _ (by first | (simp;done) | (simp;omega))];simp [go_sem]
 have k1:w2.cell? ⟨w.heap.size,1,none⟩=some (.int .i64 0):=by rw [hc _ _ (by first | (simp;done) | (simp;omega))];simp [go_sem]
 have r0:=Q5 (x:=(if true then .int .i64 (n.tdiv g) else .int .i64 0)) (y:=(if true then .int .i64 (d / g) else .int .i64 0)) k0 k1
 simp only [Bool.false_eq_true,if_true,if_false] at r0
 exact bodyPost_ret (v := .tuple #[if true then .agg #[.int .i64 (n.tdiv g),.int .i64 (d / g)] else .agg #[.int .i64 0,.int .i64 0],.bool true]) (by simp [results,Tryz.results132,go_sem,r0.1,r0.2]) rfl ⟨rfl,by repeat (first | exact B0 | refine Below.setCell ?_ (by simp) _)⟩
set_option maxHeartbeats 1000000 in
theorem IJ (w:World) (n d:Int) (hd:1<=d) (hd2:d<=9223372036854775807) (h1 : -9223372036854775807<=n) (h2:n<=9223372036854775807) (hok:mD n d=false) :
  Calls Tryz.prog 132 #[.int .i64 n,.int .i64 d] w fun e w'=>e = .returned (.tuple #[mkV n d false,.bool false])/\Below w.heap.size w w':=by
 have hg1:=oD n d hd
 have hg2:=U8 n d hd
 obtain ⟨g,hg⟩:∃ g:Int,(Int.gcd n d:Int)=g:=⟨_,rfl⟩
 have hmv:mkV n d false=if false then .agg #[.int .i64 (n.tdiv g),.int .i64 (d / g)] else .agg #[.int .i64 0,.int .i64 0]:=by rw [← hg];rfl
 rw [hmv]
 rw [hg] at hg1 hg2
 have hb:=Fv n g hg1 h1 h2
 have hq1:=hb.1
 have hq2:=hb.2
 have hz:(g == 0)=false:=by simp;omega
 have HE:Hid ((Int.gcd n.natAbs d:Int)=g):=by rw [P6];exact hg
 have hfb:Hid (frB (n.tdiv g) (d / g)=false):=by rw [← hg];exact hok
 clear hg hb hok hmv
 go_enter Tryz.func132,Tryz.ntmps132
 go_wp2_with (first
  | (go_at_call 150;refine (jZ _ _ (by omega) (by omega)).mono ?_;rintro e w' ⟨rfl,rfl⟩;dsimp only)
  | (go_at_call 149;refine (ku _ _ _ (by omega) (by omega) (by omega) (by omega)).mono ?_;rintro e w' ⟨rfl,⟨m,rfl⟩⟩;rw [HE.out];dsimp only))
 go_region
 go_wp2_with (go_at_call 99;refine (wK _ _ _).mono ?_;rintro e w2 ⟨rfl,hb⟩;rw [hfb.out];obtain ⟨hc,hf⟩:=YW hb;have hz:=hb.size;(try simp at hz);dsimp only)
 have B0:Below w.heap.size w w2:=Below.trans (by repeat (first | exact Below.refl _ _ | apply Below.drew | apply below_drewN | refine Below.alloc ?_ (by first | (simp;done) | (simp;omega)) _)) (hb.mono (by first | (simp;done) | (simp;omega)))
 have k0:w2.cell? ⟨w.heap.size,0,none⟩=some (.int .i64 0):=by rw [hc _ _ (by first | (simp;done) | (simp;omega))];simp [go_sem]
 have k1:w2.cell? ⟨w.heap.size,1,none⟩=some (.int .i64 0):=by rw [hc _ _ (by first | (simp;done) | (simp;omega))];simp [go_sem]
 have r0:=Q5 (x:=(if false then .int .i64 (n.tdiv g) else .int .i64 0)) (y:=(if false then .int .i64 (d / g) else .int .i64 0)) k0 k1
 simp only [Bool.false_eq_true,if_true,if_false] at r0
 exact bodyPost_ret (v := .tuple #[if false then .agg #[.int .i64 (n.tdiv g),.int .i64 (d / g)] else .agg #[.int .i64 0,.int .i64 0],.bool false]) (by simp [results,Tryz.results132,go_sem,r0.1,r0.2]) rfl ⟨rfl,by repeat (first | exact B0 | refine Below.setCell ?_ (by simp) _)⟩
theorem ZK (n d:Int):mkV n d (mD n d)=frV (vw n d):=by
 unfold mkV vw frV
 cases mD n d<;>rfl
theorem NJ (w:World) (n d:Int) (hd:1<=d) (hd2:d<=9223372036854775807) (h1 : -9223372036854775807<=n) (h2:n<=9223372036854775807) :
  Calls Tryz.prog 132 #[.int .i64 n,.int .i64 d] w fun e w'=>e = .returned (.tuple #[frV (vw n d),.bool (mD n d)])/\Below w.heap.size w w':=by
 rw [← ZK]
 cases h:mD n d
 ·exact IJ w n d hd hd2 h1 h2 h
 ·exact KR w n d hd hd2 h1 h2 h
def mW (w:World) (b:Nat):Prop:=w.heap[b]? = some (.cells #[.int .i64 0,.int .i64 0] 28 (0,0))
theorem mW.new (w:World):mW (w.alloc (.cells #[.int .i64 0,.int .i64 0] 28)) w.heap.size:=heap_alloc_new w _
theorem mW.lt {w:World} {b:Nat} (h:mW w b):b<w.heap.size:=(Array.getElem?_eq_some_iff.1 h).1
theorem mW.next {w w':World} {b:Nat} (h:mW w b) (hb:Below w.heap.size w w'):mW w' b:=(hb.block b h.lt).trans h
theorem mW.drewN {w:World} {b:Nat} (h:mW w b) (n:Nat):mW (w.drewN n) b:=h
theorem mW.alloc {w:World} {b:Nat} (h:mW w b) (o:Obj):mW (w.alloc o) b:=(Below.heap_alloc w o b h.lt).trans h
theorem mW.cells {w:World} {b:Nat} (h:mW w b):(w.cell? ⟨b,0,none⟩=some (.int .i64 0)/\w.cell? ⟨b,1,none⟩=some (.int .i64 0))/\w.frozen? ⟨b,0,none⟩=false/\w.frozen? ⟨b,1,none⟩=false :=
 ⟨⟨cell_of_row w b 0 _ _ _ h,cell_of_row w b 1 _ _ _ h⟩,frozen_of_row w b 0 _ _ h,frozen_of_row w b 1 _ _ h⟩
end Go.Proofs.YtkcelmnbfbehbaaGreat
