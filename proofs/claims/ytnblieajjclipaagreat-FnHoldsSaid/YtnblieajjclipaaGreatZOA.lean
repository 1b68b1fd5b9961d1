/- Tables of distances: the plain laws. Conditions: none. -/
import Derived.Test.YtnblieajjclipaaGreatGBA
set_option linter.all false
namespace Go.Proofs.YtnblieajjclipaaGreat
def at2 (m:List (List Int)) (x y:Nat):Int:=(m.getD x []).getD y 0
theorem MG {m:List (List Int)} {x y:Nat} (hx:x<m.length) (hy:y<m[x].length):at2 m x y=m[x][y]:=by
 unfold at2
 rw [List.getD_eq_getElem?_getD,List.getD_eq_getElem?_getD,List.getElem?_eq_getElem hx]
 show ((m[x])[y]?).getD 0=_
 rw [List.getElem?_eq_getElem hy]
 rfl
def kU (n:Nat) (p:Nat->Bool):Bool:=(List.range n).all p
theorem bF {n:Nat} {p:Nat->Bool}:kU n p=true↔∀ i,i<n->p i=true:=by simp [kU]
theorem oZ {n:Nat} {p:Nat->Bool} {i:Nat} (hi:i<n) (h:p i=false):kU n p=false:=by
 rw [Bool.eq_false_iff]
 intro hh
 rw [bF.1 hh i hi] at h
 cases h
theorem dA {p:Nat->Bool} {k:Nat} (h:∀ i,i<k->p i=true) (hk:p k=true):∀ i,i<k+1->p i=true:=fun i hi=>by
 rcases Nat.lt_or_ge i k with h1 | h1
 ·exact h i h1
 ·have:i=k:=by omega
  subst this
  exact hk
def fU (m:List (List Int)) (x y:Nat):Bool:=decide (at2 m x y=at2 m y x/\(x=y->at2 m x y=0)/\(x≠y->1<=at2 m x y/\at2 m x y<=99))
theorem vM {m:List (List Int)} {x y:Nat}:fU m x y=true↔at2 m x y=at2 m y x/\(x=y->at2 m x y=0)/\(x≠y->1<=at2 m x y/\at2 m x y<=99):=by unfold fU;exact decide_eq_true_iff
def sqB (m:List (List Int)):Bool:=m.all fun r=>r.length == m.length
theorem BM {m:List (List Int)}:sqB m=true↔∀ r∈m,r.length=m.length:=by simp [sqB]
theorem acu {m:List (List Int)} {k:Nat} (hk:k<m.length) (h:m[k].length≠m.length):sqB m=false:=by
 rw [Bool.eq_false_iff]
 intro hh
 exact h (BM.1 hh _ (List.getElem_mem hk))
def yX (m:List (List Int)):Bool:=kU m.length fun x=>kU m.length (fU m x)
theorem QT {m:List (List Int)} {x y:Nat} (hx:x<m.length) (hy:y<m.length) (h:fU m x y=false):yX m=false:=oZ hx (oZ hy h)
def jQ (m:List (List Int)) (x y z:Nat):Bool:=decide (at2 m x z<=at2 m x y+at2 m y z)
def nI (m:List (List Int)):Bool:=kU m.length fun x=>kU m.length fun y=>kU m.length (jQ m x y)
theorem KZ {m:List (List Int)} {x y z:Nat} (hx:x<m.length) (hy:y<m.length) (hz:z<m.length) (h:jQ m x y z=false):nI m=false:=oZ hx (oZ hy (oZ hz h))
theorem GX {m:List (List Int)} (h:yX m=true) {x y:Nat} (hx:x<m.length) (hy:y<m.length):0<=at2 m x y/\at2 m x y<=99:=by
 have:=vM.1 (bF.1 (bF.1 h x hx) y hy)
 by_cases e:x=y
 ·have:=this.2.1 e
  omega
 ·have:=this.2.2 e
  omega
end Go.Proofs.YtnblieajjclipaaGreat
namespace Go.Proofs.YtnblieajjclipaaGreat
open Go.RowKit
def allIn (lo hi:Int) (xs:List Int):Bool:=xs.all fun x=>rng x lo hi
theorem jS {lo hi:Int} {xs:List Int}:allIn lo hi xs=true↔∀ x∈xs,lo<=x/\x<=hi:=by simp [allIn,rng]
theorem Js {lo hi:Int} {xs:List Int} {x:Int} (h:x∈xs) (hx:rng x lo hi=false):allIn lo hi xs=false:=by
 rw [Bool.eq_false_iff]
 intro hh
 have:=jS.1 hh x h
 rw [uG this.1 this.2] at hx
 cases hx
theorem aY {w w':World} {a:Addr} {v:Value} (hb:Below w.heap.size w w') (h:w.cell? a=some v):w'.cell? a=some v:=(hb.cell (block_lt h)).trans h
end Go.Proofs.YtnblieajjclipaaGreat
namespace Go.Proofs.YtnblieajjclipaaGreat
def yY (n:Nat) (s:List (List Int)) (r:Nat) (x:Int):Bool:=rng x 0 ((n:Int)-1) && decide (0<=at2 s r x.toNat)
def nP (n:Nat) (s:List (List Int)) (row:List Int):Bool:=(row.length == s.length) && kU row.length fun r=>yY n s r (row.getD r 0)
def aeB (m s:List (List Int)) (next:List (List Int)):Bool:=(next.length == m.length) && next.all (nP m.length s)
theorem LC {n:Nat} {s:List (List Int)} {row:List Int} {r:Nat} (hr:r<row.length) (h:yY n s r row[r]=false):nP n s row=false:=by
 unfold nP
 rw [oZ hr (by rw [List.getD_eq_getElem?_getD,List.getElem?_eq_getElem hr];exact h)]
 simp
theorem GL {n:Nat} {s:List (List Int)} {row:List Int} (h:row.length≠s.length):nP n s row=false:=by unfold nP;simp [h]
theorem GN {n:Nat} {s:List (List Int)} {row:List Int} (h:row.length=s.length) (h2:∀ r (hr:r<row.length),yY n s r row[r]=true):nP n s row=true:=by
 unfold nP
 rw [bF.2 fun r hr=>by rw [List.getD_eq_getElem?_getD,List.getElem?_eq_getElem hr];exact h2 r hr]
 simp [h]
end Go.Proofs.YtnblieajjclipaaGreat
namespace Go.Proofs.YtnblieajjclipaaGreat
open Go.RowKit
theorem J5 (a b:Int) (ha:0<=a) (hb:0<b):Int.gcd b (a % b)=Int.gcd a b:=by
 obtain ⟨n,rfl⟩:=Int.eq_ofNat_of_zero_le ha
 obtain ⟨m,rfl⟩:=Int.eq_ofNat_of_zero_le (Int.le_of_lt hb)
 rw [← Int.natCast_emod,Int.gcd_natCast_natCast,Int.gcd_natCast_natCast,Nat.gcd_comm n m,Nat.gcd_rec m n,Nat.gcd_comm]
set_option maxHeartbeats 400000 in
theorem iV (w:World) (a b:Int) (ha:0<=a) (hb:0<=b) (ha2:a<=9223372036854775807) (hb2:b<=9223372036854775807) :
  Calls Tryz.prog 126 #[.int .i64 a,.int .i64 b] w fun e w'=>e = .returned (.int .i64 (Int.gcd a b))/\Qt w w':=by
 go_enter Tryz.func126,Tryz.ntmps126
 go_wp2
 go_loopw [0,1] (fun u v wr=>∃ x y:Int,0<=x/\0<=y/\x<=9223372036854775807/\y<=9223372036854775807/\u = .int .i64 x/\v = .int .i64 y/\Hid (Int.gcd x y=Int.gcd a b)/\Qt w wr) (fun _ v _=>(intOf v).toNat)
 case atStart=>exact ⟨a,b,ha,hb,ha2,hb2,rfl,rfl,rfl,Qt.refl _⟩
 case round =>
  obtain ⟨x,y,hx,hy,hx2,hy2,rfl,rfl,hg,n,rfl⟩:=hrel
  by_cases h:0<y
  ·have hs:=hide (J5 x y hx h)
   have h1:(y == 0)=false:=by simp;omega
   have h2:=Int.emod_nonneg x (show y≠0 by omega)
   have h3:=Int.emod_lt_of_pos x h
   go_wp2
   go_quiet (fail)
   go_wp2
   go_roundw
   case rel=>exact ⟨y,x % y,hy,h2,hy2,by omega,rfl,rfl,hs.out.trans hg.out,by first | exact ⟨_,rfl⟩ | exact ⟨_,World.drewN_drewN _ _ _⟩⟩
   case measure=>simp [intOf];omega
  ·obtain rfl:y=0:=by omega
   go_wp2
   go_ret
   refine ⟨?_,by first | exact ⟨_,rfl⟩ | exact ⟨_,World.drewN_drewN _ _ _⟩⟩
   have h1:=hg.out
   rw [Int.gcd_zero_right] at h1
   show Ending.returned (.int .i64 x)=_
   rw [← h1,Int.natAbs_of_nonneg hx]
set_option maxHeartbeats 400000 in
theorem jZ (w:World) (a b:Int) (ha:0<=a) (hb:0<=b) (ha2:a<=9223372036854775807) (hb2:b<=9223372036854775807) :
  Calls Tryz.prog 167 #[.int .i64 a,.int .i64 b] w fun e w'=>e = .returned (.int .i64 (Int.gcd a b))/\Qt w w':=by
 go_enter Tryz.func167,Tryz.ntmps167
 go_wp2
 go_loopw [0,1] (fun u v wr=>∃ x y:Int,0<=x/\0<=y/\x<=9223372036854775807/\y<=9223372036854775807/\u = .int .i64 x/\v = .int .i64 y/\Hid (Int.gcd x y=Int.gcd a b)/\Qt w wr) (fun _ v _=>(intOf v).toNat)
 case atStart=>exact ⟨a,b,ha,hb,ha2,hb2,rfl,rfl,rfl,Qt.refl _⟩
 case round =>
  obtain ⟨x,y,hx,hy,hx2,hy2,rfl,rfl,hg,n,rfl⟩:=hrel
  by_cases h:0<y
  ·have hs:=hide (J5 x y hx h)
   have h1:(y == 0)=false:=by simp;omega
   have h2:=Int.emod_nonneg x (show y≠0 by omega)
   have h3:=Int.emod_lt_of_pos x h
   go_wp2
   go_quiet (fail)
   go_wp2
   go_roundw
   case rel=>exact ⟨y,x % y,hy,h2,hy2,by omega,rfl,rfl,hs.out.trans hg.out,by first | exact ⟨_,rfl⟩ | exact ⟨_,World.drewN_drewN _ _ _⟩⟩
   case measure=>simp [intOf];omega
  ·obtain rfl:y=0:=by omega
   go_wp2
   go_ret
   refine ⟨?_,by first | exact ⟨_,rfl⟩ | exact ⟨_,World.drewN_drewN _ _ _⟩⟩
   have h1:=hg.out
   rw [Int.gcd_zero_right] at h1
   show Ending.returned (.int .i64 x)=_
   rw [← h1,Int.natAbs_of_nonneg hx]
theorem size_any (w:World) (n:Int) (h1 : -9223372036854775807<=n) (h2:n<=9223372036854775807):Calls Tryz.prog 127 #[.int .i64 n] w fun e w'=>e = .returned (.int .i64 n.natAbs)/\w=w':=by
 by_cases h:0<=n
 ·go_enter Tryz.func127,Tryz.ntmps127
  go_wp2
  go_ret
  refine ⟨?_,rfl⟩
  show Ending.returned (.int .i64 _)=_
  congr 2
  omega
 ·go_enter Tryz.func127,Tryz.ntmps127
  go_wp2
  go_ret
  refine ⟨?_,rfl⟩
  show Ending.returned (.int .i64 _)=_
  congr 2
  omega
theorem jY (w:World) (n:Int) (h1 : -9223372036854775807<=n) (h2:n<=9223372036854775807):Calls Tryz.prog 168 #[.int .i64 n] w fun e w'=>e = .returned (.int .i64 n.natAbs)/\w=w':=by
 by_cases h:n > -n
 ·have e:(n.natAbs:Int)=n:=by omega
  rw [e]
  go_enter Tryz.func168,Tryz.ntmps168
  go_wp2
  go_ret
  exact ⟨rfl,rfl⟩
 ·have e:(n.natAbs:Int) = -n:=by omega
  rw [e]
  go_enter Tryz.func168,Tryz.ntmps168
  go_wp2
  go_ret
  exact ⟨rfl,rfl⟩
def frB (n d:Int):Bool:=decide (1<=d/\d<=100000 /\ -100000000<=n/\n<=100000000/\Int.gcd n d=1)
theorem PI {n d:Int} (h:d<1\/100000<d):frB n d=false:=decide_eq_false (by omega)
theorem PK {n d:Int} (h:n < -100000000\/100000000<n):frB n d=false:=decide_eq_false (by omega)
theorem UD {n d:Int} (h1:1<=d) (h2:d<=100000) (h3 : -100000000<=n) (h4:n<=100000000):frB n d=((Int.gcd n.natAbs d:Int) == 1):=by
 have e:Int.gcd n.natAbs d=Int.gcd n d:=by simp [Int.gcd]
 rw [e]
 unfold frB
 by_cases h:Int.gcd n d=1
 ·simp [h,h1,h2,h3,h4]
 ·have h':((Int.gcd n d:Int) == 1)=false:=by simp;omega
  rw [h']
  exact decide_eq_false (by omega)
theorem kK {n d:Int}:frB n d=true↔1<=d/\d<=100000 /\ -100000000<=n/\n<=100000000/\Int.gcd n d=1:=by simp [frB]
set_option maxHeartbeats 1000000 in
theorem qG (w:World) (n d:Int):Calls Tryz.prog 119 #[.agg #[.int .i64 n,.int .i64 d]] w fun e w'=>e = .returned (.bool (frB n d))/\Below w.heap.size w w':=by
 by_cases hd:1<=d/\d<=100000
 ·obtain ⟨hd1,hd2⟩:=hd
  by_cases hn : -100000000<=n/\n<=100000000
  ·obtain ⟨hn1,hn2⟩:=hn
   rw [UD hd1 hd2 hn1 hn2]
   go_enter Tryz.func119,Tryz.ntmps119
   go_wp2
   go_quiet ((first | (go_at_call 128;first | (with_reducible exact lQ (gG _ _ _ _ (by omega) (by omega))) | (with_reducible exact jg (gG _ _ _ _ (by omega) (by omega))) | (with_reducible exact jh (gG _ _ _ _ (by omega) (by omega))) | (with_reducible exact lS (gG _ _ _ _ (by omega) (by omega))) | (with_reducible exact lT (gG _ _ _ _ (by omega) (by omega)))) | (go_at_call 127;first | (with_reducible exact lQ (size_any _ _ (by omega) (by omega))) | (with_reducible exact jg (size_any _ _ (by omega) (by omega))) | (with_reducible exact jh (size_any _ _ (by omega) (by omega))) | (with_reducible exact lS (size_any _ _ (by omega) (by omega))) | (with_reducible exact lT (size_any _ _ (by omega) (by omega)))) | (go_at_call 126;first | (with_reducible exact lQ (iV _ _ _ (by omega) (by omega) (by omega) (by omega))) | (with_reducible exact jg (iV _ _ _ (by omega) (by omega) (by omega) (by omega))) | (with_reducible exact jh (iV _ _ _ (by omega) (by omega) (by omega) (by omega))) | (with_reducible exact lS (iV _ _ _ (by omega) (by omega) (by omega) (by omega))) | (with_reducible exact lT (iV _ _ _ (by omega) (by omega) (by omega) (by omega))))))
   go_wp2
   go_ret
   exact ⟨rfl,below_drewN (by repeat (first | exact Below.refl _ _ | apply Below.drew | refine Below.setCell ?_ (by first | (simp;done) | (simp;omega)) _ | refine Below.alloc ?_ (by first | (simp;done) | (simp;omega)) _)) _⟩
  ·rw [PK (by omega)]
   go_enter Tryz.func119,Tryz.ntmps119
   go_wp2
   go_quiet ((first | (go_at_call 128;first | (with_reducible exact lQ (gG _ d _ _ (by omega) (by omega))) | (with_reducible exact jg (gG _ d _ _ (by omega) (by omega))) | (with_reducible exact jh (gG _ d _ _ (by omega) (by omega))) | (with_reducible exact lS (gG _ d _ _ (by omega) (by omega))) | (with_reducible exact lT (gG _ d _ _ (by omega) (by omega)))) | (go_at_call 128;first | (with_reducible exact lQ (iJ _ n _ _ (by omega))) | (with_reducible exact jg (iJ _ n _ _ (by omega))) | (with_reducible exact jh (iJ _ n _ _ (by omega))) | (with_reducible exact lS (iJ _ n _ _ (by omega))) | (with_reducible exact lT (iJ _ n _ _ (by omega))))))
   go_wp2
   go_ret
   exact ⟨rfl,below_drewN (by repeat (first | exact Below.refl _ _ | apply Below.drew | refine Below.setCell ?_ (by first | (simp;done) | (simp;omega)) _ | refine Below.alloc ?_ (by first | (simp;done) | (simp;omega)) _)) _⟩
 ·rw [PI (by omega)]
  go_enter Tryz.func119,Tryz.ntmps119
  go_wp2
  go_quiet (((go_at_call 128;first | (with_reducible exact lQ (iJ _ d _ _ (by omega))) | (with_reducible exact jg (iJ _ d _ _ (by omega))) | (with_reducible exact jh (iJ _ d _ _ (by omega))) | (with_reducible exact lS (iJ _ d _ _ (by omega))) | (with_reducible exact lT (iJ _ d _ _ (by omega))))))
  go_wp2
  go_ret
  exact ⟨rfl,below_drewN (by repeat (first | exact Below.refl _ _ | apply Below.drew | refine Below.setCell ?_ (by first | (simp;done) | (simp;omega)) _ | refine Below.alloc ?_ (by first | (simp;done) | (simp;omega)) _)) _⟩
set_option maxHeartbeats 1000000 in
theorem vZ (w:World) (n d:Int):Calls Tryz.prog 121 #[.agg #[.int .i64 n,.int .i64 d]] w fun e w'=>e = .returned (.bool (frB n d))/\Below w.heap.size w w':=by
 by_cases hd:1<=d/\d<=100000
 ·obtain ⟨hd1,hd2⟩:=hd
  by_cases hn : -100000000<=n/\n<=100000000
  ·obtain ⟨hn1,hn2⟩:=hn
   rw [UD hd1 hd2 hn1 hn2]
   go_enter Tryz.func121,Tryz.ntmps121
   go_wp2
   go_quiet ((first | (go_at_call 70;first | (with_reducible exact lQ (jo _ _ _ _ (by omega) (by omega))) | (with_reducible exact jg (jo _ _ _ _ (by omega) (by omega))) | (with_reducible exact jh (jo _ _ _ _ (by omega) (by omega))) | (with_reducible exact lS (jo _ _ _ _ (by omega) (by omega))) | (with_reducible exact lT (jo _ _ _ _ (by omega) (by omega)))) | (go_at_call 168;first | (with_reducible exact lQ (jY _ _ (by omega) (by omega))) | (with_reducible exact jg (jY _ _ (by omega) (by omega))) | (with_reducible exact jh (jY _ _ (by omega) (by omega))) | (with_reducible exact lS (jY _ _ (by omega) (by omega))) | (with_reducible exact lT (jY _ _ (by omega) (by omega)))) | (go_at_call 167;first | (with_reducible exact lQ (jZ _ _ _ (by omega) (by omega) (by omega) (by omega))) | (with_reducible exact jg (jZ _ _ _ (by omega) (by omega) (by omega) (by omega))) | (with_reducible exact jh (jZ _ _ _ (by omega) (by omega) (by omega) (by omega))) | (with_reducible exact lS (jZ _ _ _ (by omega) (by omega) (by omega) (by omega))) | (with_reducible exact lT (jZ _ _ _ (by omega) (by omega) (by omega) (by omega))))))
   go_wp2
   go_ret
   exact ⟨rfl,below_drewN (by repeat (first | exact Below.refl _ _ | apply Below.drew | refine Below.setCell ?_ (by first | (simp;done) | (simp;omega)) _ | refine Below.alloc ?_ (by first | (simp;done) | (simp;omega)) _)) _⟩
  ·rw [PK (by omega)]
   go_enter Tryz.func121,Tryz.ntmps121
   go_wp2
   go_quiet ((first | (go_at_call 70;first | (with_reducible exact lQ (jo _ d _ _ (by omega) (by omega))) | (with_reducible exact jg (jo _ d _ _ (by omega) (by omega))) | (with_reducible exact jh (jo _ d _ _ (by omega) (by omega))) | (with_reducible exact lS (jo _ d _ _ (by omega) (by omega))) | (with_reducible exact lT (jo _ d _ _ (by omega) (by omega)))) | (go_at_call 70;first | (with_reducible exact lQ (kN _ n _ _ (by omega))) | (with_reducible exact jg (kN _ n _ _ (by omega))) | (with_reducible exact jh (kN _ n _ _ (by omega))) | (with_reducible exact lS (kN _ n _ _ (by omega))) | (with_reducible exact lT (kN _ n _ _ (by omega))))))
   go_wp2
   go_ret
   exact ⟨rfl,below_drewN (by repeat (first | exact Below.refl _ _ | apply Below.drew | refine Below.setCell ?_ (by first | (simp;done) | (simp;omega)) _ | refine Below.alloc ?_ (by first | (simp;done) | (simp;omega)) _)) _⟩
 ·rw [PI (by omega)]
  go_enter Tryz.func121,Tryz.ntmps121
  go_wp2
  go_quiet (((go_at_call 70;first | (with_reducible exact lQ (kN _ d _ _ (by omega))) | (with_reducible exact jg (kN _ d _ _ (by omega))) | (with_reducible exact jh (kN _ d _ _ (by omega))) | (with_reducible exact lS (kN _ d _ _ (by omega))) | (with_reducible exact lT (kN _ d _ _ (by omega))))))
  go_wp2
  go_ret
  exact ⟨rfl,below_drewN (by repeat (first | exact Below.refl _ _ | apply Below.drew | refine Below.setCell ?_ (by first | (simp;done) | (simp;omega)) _ | refine Below.alloc ?_ (by first | (simp;done) | (simp;omega)) _)) _⟩
def qN (n d:Int):Int:=n.tdiv (Int.gcd n d)
def qD (n d:Int):Int:=d / (Int.gcd n d)
def iL (n d:Int):Bool:=frB (qN n d) (qD n d)
def jw (n d:Int):Int×Int:=if iL n d then (qN n d,qD n d) else (0,0)
def frV (a:Int×Int):Value := .agg #[.int .i64 a.1,.int .i64 a.2]
theorem kL (n d:Int) (h:1<=d):1<=(Int.gcd n d:Int):=by
 have:0<Int.gcd n d:=Int.gcd_pos_of_ne_zero_right n (by omega)
 omega
theorem H9 (n d:Int) (h:1<=d):(Int.gcd n d:Int)<=d:=Int.le_of_dvd (by omega) (Int.gcd_dvd_right ..)
theorem Bh (n d:Int):Int.gcd n.natAbs d=Int.gcd n d:=by simp [Int.gcd]
theorem qP (n g:Int) (hg:1<=g) (h1 : -9223372036854775807<=n) (h2:n<=9223372036854775807) : -9223372036854775807<=n.tdiv g/\n.tdiv g<=9223372036854775807:=by
 have h:=Int.natAbs_tdiv_le_natAbs n g
 omega
def mkV (n d:Int) (b:Bool):Value:=if b then .agg #[.int .i64 (qN n d),.int .i64 (qD n d)] else .agg #[.int .i64 0,.int .i64 0]
set_option maxHeartbeats 1000000 in
theorem Fg (w:World) (n d:Int) (hd:1<=d) (hd2:d<=9223372036854775807) (h1 : -9223372036854775807<=n) (h2:n<=9223372036854775807) (hok:iL n d=true) :
  Calls Tryz.prog 65 #[.int .i64 n,.int .i64 d] w fun e w'=>e = .returned (.tuple #[mkV n d true,.bool true])/\Below w.heap.size w w':=by
 have hg1:=kL n d hd
 have hg2:=H9 n d hd
 obtain ⟨g,hg⟩:∃ g:Int,(Int.gcd n d:Int)=g:=⟨_,rfl⟩
 have hmv:mkV n d true=if true then .agg #[.int .i64 (n.tdiv g),.int .i64 (d / g)] else .agg #[.int .i64 0,.int .i64 0]:=by rw [← hg];rfl
 rw [hmv]
 rw [hg] at hg1 hg2
 have hb:=qP n g hg1 h1 h2
 have hq1:=hb.1
 have hq2:=hb.2
 have hz:(g == 0)=false:=by simp;omega
 have HE:Hid ((Int.gcd n.natAbs d:Int)=g):=by rw [Bh];exact hg
 have hfb:Hid (frB (n.tdiv g) (d / g)=true):=by rw [← hg];exact hok
 clear hg hb hok hmv
 go_enter Tryz.func65,Tryz.ntmps65
 go_wp2_with (first
  | (go_at_call 127;refine (size_any _ _ (by omega) (by omega)).mono ?_;rintro e w' ⟨rfl,rfl⟩;dsimp only)
  | (go_at_call 126;refine (iV _ _ _ (by omega) (by omega) (by omega) (by omega)).mono ?_;rintro e w' ⟨rfl,⟨m,rfl⟩⟩;rw [HE.out];dsimp only))
 go_region
 go_wp2_with (go_at_call 119;refine (qG _ _ _).mono ?_;rintro e w2 ⟨rfl,hb⟩;rw [hfb.out];obtain ⟨hc,hf⟩:=O5 hb;have hz:=hb.size;(try simp at hz);dsimp only)
 have B0:Below w.heap.size w w2:=Below.trans (by repeat (first | exact Below.refl _ _ | apply Below.drew | apply below_drewN | refine Below.alloc ?_ (by first | (simp;done) | (simp;omega)) _)) (hb.mono (by first | (simp;done) | (simp;omega)))
 have k0:w2.cell? ⟨w.heap.size,0,none⟩=some (.int .i64 0):=by rw [hc _ _ (by first | (simp;done) | (simp;omega))];simp [go_sem]
 have k1:w2.cell? ⟨w.heap.size,1,none⟩=some (.int .i64 0):=by rw [hc _ _ (by first | (simp;done) | (simp;omega))];simp [go_sem]
 have r0:=BN (x:=(if true then .int .i64 (n.tdiv g) else .int .i64 0)) (y:=(if true then .int .i64 (d / g) else .int .i64 0)) k0 k1
 simp only [Bool.false_eq_true,if_true,if_false] at r0
 exact bodyPost_ret (v := .tuple #[if true then .agg #[.int .i64 (n.tdiv g),.int .i64 (d / g)] else .agg #[.int .i64 0,.int .i64 0],.bool true]) (by simp [results,Tryz.results65,go_sem,r0.1,r0.2]) rfl ⟨rfl,by repeat (first | exact B0 | refine Below.setCell ?_ (by simp) _)⟩
set_option maxHeartbeats 1000000 in
theorem DL (w:World) (n d:Int) (hd:1<=d) (hd2:d<=9223372036854775807) (h1 : -9223372036854775807<=n) (h2:n<=9223372036854775807) (hok:iL n d=false) :
  Calls Tryz.prog 65 #[.int .i64 n,.int .i64 d] w fun e w'=>e = .returned (.tuple #[mkV n d false,.bool false])/\Below w.heap.size w w':=by
 have hg1:=kL n d hd
 have hg2:=H9 n d hd
 obtain ⟨g,hg⟩:∃ g:Int,(Int.gcd n d:Int)=g:=⟨_,rfl⟩
 have hmv:mkV n d false=if false then .agg #[.int .i64 (n.tdiv g),.int .i64 (d / g)] else .agg #[.int .i64 0,.int .i64 0]:=by rw [← hg];rfl
 rw [hmv]
 rw [hg] at hg1 hg2
 have hb:=qP n g hg1 h1 h2
 have hq1:=hb.1
 have hq2:=hb.2
 have hz:(g == 0)=false:=by simp;omega
 have HE:Hid ((Int.gcd n.natAbs d:Int)=g):=by rw [Bh];exact hg
 have hfb:Hid (frB (n.tdiv g) (d / g)=false):=by rw [← hg];exact hok
 clear hg hb hok hmv
 go_enter Tryz.func65,Tryz.ntmps65
 go_wp2_with (first
  | (go_at_call 127;refine (size_any _ _ (by omega) (by omega)).mono ?_;rintro e w' ⟨rfl,rfl⟩;dsimp only)
  | (go_at_call 126;refine (iV _ _ _ (by omega) (by omega) (by omega) (by omega)).mono ?_;rintro e w' ⟨rfl,⟨m,rfl⟩⟩;rw [HE.out];dsimp only))
 go_region
 go_wp2_with (go_at_call 119;refine (qG _ _ _).mono ?_;rintro e w2 ⟨rfl,hb⟩;rw [hfb.out];obtain ⟨hc,hf⟩:=O5 hb;have hz:=hb.size;(try simp at hz);dsimp only)
 have B0:Below w.heap.size w w2:=Below.trans (by repeat (first | exact Below.refl _ _ | apply Below.drew | apply below_drewN | refine Below.alloc ?_ (by first | (simp;done) | (simp;omega)) _)) (hb.mono (by first | (simp;done) | (simp;omega)))
 have k0:w2.cell? ⟨w.heap.size,0,none⟩=some (.int .i64 0):=by rw [hc _ _ (by first | (simp;done) | (simp;omega))];simp [go_sem]
 have k1:w2.cell? ⟨w.heap.size,1,none⟩=some (.int .i64 0):=by rw [hc _ _ (by first | (simp;done) | (simp;omega))];simp [go_sem]
 have r0:=BN (x:=(if false then .int .i64 (n.tdiv g) else .int .i64 0)) (y:=(if false then .int .i64 (d / g) else .int .i64 0)) k0 k1
 simp only [Bool.false_eq_true,if_true,if_false] at r0
 exact bodyPost_ret (v := .tuple #[if false then .agg #[.int .i64 (n.tdiv g),.int .i64 (d / g)] else .agg #[.int .i64 0,.int .i64 0],.bool false]) (by simp [results,Tryz.results65,go_sem,r0.1,r0.2]) rfl ⟨rfl,by repeat (first | exact B0 | refine Below.setCell ?_ (by simp) _)⟩
set_option maxHeartbeats 1000000 in
theorem KH (w:World) (n d:Int) (hd:1<=d) (hd2:d<=9223372036854775807) (h1 : -9223372036854775807<=n) (h2:n<=9223372036854775807) (hok:iL n d=true) :
  Calls Tryz.prog 165 #[.int .i64 n,.int .i64 d] w fun e w'=>e = .returned (.tuple #[mkV n d true,.bool true])/\Below w.heap.size w w':=by
 have hg1:=kL n d hd
 have hg2:=H9 n d hd
 obtain ⟨g,hg⟩:∃ g:Int,(Int.gcd n d:Int)=g:=⟨_,rfl⟩
 have hmv:mkV n d true=if true then .agg #[.int .i64 (n.tdiv g),.int .i64 (d / g)] else .agg #[.int .i64 0,.int .i64 0]:=by rw [← hg];rfl
 rw [hmv]
 rw [hg] at hg1 hg2
 have hb:=qP n g hg1 h1 h2
 have hq1:=hb.1
 have hq2:=hb.2
 have hz:(g == 0)=false:=by simp;omega
 have HE:Hid ((Int.gcd n.natAbs d:Int)=g):=by rw [Bh];exact hg
 have hfb:Hid (frB (n.tdiv g) (d / g)=true):=by rw [← hg];exact hok
 clear hg hb hok hmv
 go_enter Tryz.func165,Tryz.ntmps165
 go_wp2_with (first
  | (go_at_call 168;refine (jY _ _ (by omega) (by omega)).mono ?_;rintro e w' ⟨rfl,rfl⟩;dsimp only)
  | (go_at_call 167;refine (jZ _ _ _ (by omega) (by omega) (by omega) (by omega)).mono ?_;rintro e w' ⟨rfl,⟨m,rfl⟩⟩;rw [HE.out];dsimp only))
 go_region
 go_wp2_with (go_at_call 121;refine (vZ _ _ _).mono ?_;rintro e w2 ⟨rfl,hb⟩;rw [hfb.out];obtain ⟨hc,hf⟩:=O5 hb;have hz:=hb.size;(try simp at hz);dsimp only)
 have B0:Below w.heap.size w w2:=Below.trans (by repeat (first | exact Below.refl _ _ | apply Below.drew | apply below_drewN | refine Below.alloc ?_ (by first | (simp;done) | (simp;omega)) _)) (hb.mono (by first | (simp;done) | (simp;omega)))
 have k0:w2.cell? ⟨w.heap.size,0,none⟩=some (.int .i64 0):=by rw [hc _ _ (by first | (simp;done) | (simp;omega))];simp [go_sem]
 have k1:w2.cell? ⟨w.heap.size,1,none⟩=some (.int .i64 0):=by rw [hc _ _ (by first | (simp;done) | (simp;omega))];simp [go_sem]
 have r0:=BN (x:=(if true then .int .i64 (n.tdiv g) else .int .i64 0)) (y:=(if true then .int .i64 (d / g) else .int .i64 0)) k0 k1
 simp only [Bool.false_eq_true,if_true,if_false] at r0
 exact bodyPost_ret (v := .tuple #[if true then .agg #[.int .i64 (n.tdiv g),.int .i64 (d / g)] else .agg #[.int .i64 0,.int .i64 0],.bool true]) (by simp [results,Tryz.results165,go_sem,r0.1,r0.2]) rfl ⟨rfl,by repeat (first | exact B0 | refine Below.setCell ?_ (by simp) _)⟩
set_option maxHeartbeats 1000000 in
theorem Ik (w:World) (n d:Int) (hd:1<=d) (hd2:d<=9223372036854775807) (h1 : -9223372036854775807<=n) (h2:n<=9223372036854775807) (hok:iL n d=false) :
  Calls Tryz.prog 165 #[.int .i64 n,.int .i64 d] w fun e w'=>e = .returned (.tuple #[mkV n d false,.bool false])/\Below w.heap.size w w':=by
 have hg1:=kL n d hd
 have hg2:=H9 n d hd
 obtain ⟨g,hg⟩:∃ g:Int,(Int.gcd n d:Int)=g:=⟨_,rfl⟩
 have hmv:mkV n d false=if false then .agg #[.int .i64 (n.tdiv g),.int .i64 (d / g)] else .agg #[.int .i64 0,.int .i64 0]:=by rw [← hg];rfl
 rw [hmv]
 rw [hg] at hg1 hg2
 have hb:=qP n g hg1 h1 h2
 have hq1:=hb.1
 have hq2:=hb.2
 have hz:(g == 0)=false:=by simp;omega
 have HE:Hid ((Int.gcd n.natAbs d:Int)=g):=by rw [Bh];exact hg
 have hfb:Hid (frB (n.tdiv g) (d / g)=false):=by rw [← hg];exact hok
 clear hg hb hok hmv
 go_enter Tryz.func165,Tryz.ntmps165
 go_wp2_with (first
  | (go_at_call 168;refine (jY _ _ (by omega) (by omega)).mono ?_;rintro e w' ⟨rfl,rfl⟩;dsimp only)
  | (go_at_call 167;refine (jZ _ _ _ (by omega) (by omega) (by omega) (by omega)).mono ?_;rintro e w' ⟨rfl,⟨m,rfl⟩⟩;rw [HE.out];dsimp only))
 go_region
 go_wp2_with (go_at_call 121;refine (vZ _ _ _).mono ?_;rintro e w2 ⟨rfl,hb⟩;rw [hfb.out];obtain ⟨hc,hf⟩:=O5 hb;have hz:=hb.size;(try simp at hz);dsimp only)
 have B0:Below w.heap.size w w2:=Below.trans (by repeat (first | exact Below.refl _ _ | apply Below.drew | apply below_drewN | refine Below.alloc ?_ (by first | (simp;done) | (simp;omega)) _)) (hb.mono (by first | (simp;done) | (simp;omega)))
 have k0:w2.cell? ⟨w.heap.size,0,none⟩=some (.int .i64 0):=by rw [hc _ _ (by first | (simp;done) | (simp;omega))];simp [go_sem]
 have k1:w2.cell? ⟨w.heap.size,1,none⟩=some (.int .i64 0):=by rw [hc _ _ (by first | (simp;done) | (simp;omega))];simp [go_sem]
 have r0:=BN (x:=(if false then .int .i64 (n.tdiv g) else .int .i64 0)) (y:=(if false then .int .i64 (d / g) else .int .i64 0)) k0 k1
 simp only [Bool.false_eq_true,if_true,if_false] at r0
 exact bodyPost_ret (v := .tuple #[if false then .agg #[.int .i64 (n.tdiv g),.int .i64 (d / g)] else .agg #[.int .i64 0,.int .i64 0],.bool false]) (by simp [results,Tryz.results165,go_sem,r0.1,r0.2]) rfl ⟨rfl,by repeat (first | exact B0 | refine Below.setCell ?_ (by simp) _)⟩
theorem Vw (n d:Int):mkV n d (iL n d)=frV (jw n d):=by
 unfold mkV jw frV
 cases iL n d<;>rfl
theorem Iq (w:World) (n d:Int) (hd:1<=d) (hd2:d<=9223372036854775807) (h1 : -9223372036854775807<=n) (h2:n<=9223372036854775807) :
  Calls Tryz.prog 65 #[.int .i64 n,.int .i64 d] w fun e w'=>e = .returned (.tuple #[frV (jw n d),.bool (iL n d)])/\Below w.heap.size w w':=by
 rw [← Vw]
 cases h:iL n d
 ·exact DL w n d hd hd2 h1 h2 h
 ·exact Fg w n d hd hd2 h1 h2 h
theorem Ny (w:World) (n d:Int) (hd:1<=d) (hd2:d<=9223372036854775807) (h1 : -9223372036854775807<=n) (h2:n<=9223372036854775807) :
  Calls Tryz.prog 165 #[.int .i64 n,.int .i64 d] w fun e w'=>e = .returned (.tuple #[frV (jw n d),.bool (iL n d)])/\Below w.heap.size w w':=by
 rw [← Vw]
 cases h:iL n d
 ·exact Ik w n d hd hd2 h1 h2 h
 ·exact KH w n d hd hd2 h1 h2 h
def mW (w:World) (b:Nat):Prop:=w.heap[b]? = some (.cells #[.int .i64 0,.int .i64 0] 39 (0,0))
theorem mW.new (w:World):mW (w.alloc (.cells #[.int .i64 0,.int .i64 0] 39)) w.heap.size:=heap_alloc_new w _
theorem mW.lt {w:World} {b:Nat} (h:mW w b):b<w.heap.size:=(Array.getElem?_eq_some_iff.1 h).1
theorem mW.next {w w':World} {b:Nat} (h:mW w b) (hb:Below w.heap.size w w'):mW w' b:=(hb.block b h.lt).trans h
theorem mW.drewN {w:World} {b:Nat} (h:mW w b) (n:Nat):mW (w.drewN n) b:=h
theorem mW.alloc {w:World} {b:Nat} (h:mW w b) (o:Obj):mW (w.alloc o) b:=(Below.heap_alloc w o b h.lt).trans h
theorem mW.cells {w:World} {b:Nat} (h:mW w b):(w.cell? ⟨b,0,none⟩=some (.int .i64 0)/\w.cell? ⟨b,1,none⟩=some (.int .i64 0))/\w.frozen? ⟨b,0,none⟩=false/\w.frozen? ⟨b,1,none⟩=false :=
 ⟨⟨cell_of_row w b 0 _ _ _ h,cell_of_row w b 1 _ _ _ h⟩,frozen_of_row w b 0 _ _ h,frozen_of_row w b 1 _ _ h⟩
end Go.Proofs.YtnblieajjclipaaGreat
