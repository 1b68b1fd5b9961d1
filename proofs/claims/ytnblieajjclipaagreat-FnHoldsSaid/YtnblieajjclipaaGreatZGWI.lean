/- Work functions on the machine: the reference's. Conditions: problems that are right. -/
import Derived.Test.YtnblieajjclipaaGreatGWO
import Derived.Test.YtnblieajjclipaaGreatZMR
import Derived.Test.YtnblieajjclipaaGreatGAM
set_option linter.all false
namespace Go.Proofs.YtnblieajjclipaaGreat
open Go Go.RowKit Am
theorem RJ (a b:Int):Does Tryz.prog 185 [.int a,.int b] (.imm (.int (min a b))):=by
 refine aF Tryz.func185 rfl Tryz.ntmps185 aQ (fun _ _=>by kernel_rfl) rfl (Nat.le_of_ble_eq_true rfl) ?_
 intro M0 w0
 rw [Tryz.results185]
 refine ah ?_
 refine aj amQ (fun hc =>?_) (fun hc =>?_)
 ·have hc:=of_decide_eq_true hc
  refine ah ?_
  refine bJ ?_
  rw [show min a b=a by omega]
 ·have hc:=of_decide_eq_false hc
  refine ah ?_
  refine bJ ?_
  rw [show min a b=b by omega]
theorem Gm (w:List Int) (hw:w≠[]):Does Tryz.prog 163 [.sl (.ints w)] (.imm (.int (dn w (w.length-1)))):=by
 have hl:0<w.length:=List.length_pos_iff.2 hw
 refine aF Tryz.func163 rfl Tryz.ntmps163 aQ (fun _ _=>by kernel_rfl) rfl (Nat.le_of_ble_eq_true rfl) ?_
 intro M0 w0
 rw [Tryz.results163]
 (refine bY 0 rfl fun hf =>?_;simp only [xp,simprocAttr] at hf;simp only [xf,simprocAttr] at hf)
 refine ah ?_
 refine aA (α:=Nat) (fun k=>[(3,true,.int (dn w k)),(4,true,.int ((k:Int)+1))]) [0] (fun _=>[]) (fun k=>k<=w.length-1) (fun k=>w.length-1-k) 0 (by exact bW) (Nat.zero_le _) fun k hk =>?_
 simp only [xr,simprocAttr]
 refine ah ?_
 refine aj amQ (fun hc =>?_) (fun hc =>?_)
 ·have hc:=of_decide_eq_true hc
  have hk':k+1<w.length:=by omega
  refine ah ?_
  ((try refine Or.inl ?_);refine ⟨_,(RJ _ _),.inl rfl,?_⟩;refine amC ?_)
  refine ah ?_
  refine ⟨k+1,by omega,by omega,.inl ?_⟩
  exact bW
 ·have hc:=of_decide_eq_false hc
  have hk':k=w.length-1:=by omega
  subst hk'
  refine ah ?_
  refine bJ ?_
  rfl
theorem EF (w:List Int) (hw:w≠[]):Does Tryz.prog 133 [.sl (.ints w)] (.imm (.int (dn w (w.length-1)))):=by
 have hl:0<w.length:=List.length_pos_iff.2 hw
 refine aF Tryz.func133 rfl Tryz.ntmps133 aQ (fun _ _=>by kernel_rfl) rfl (Nat.le_of_ble_eq_true rfl) ?_
 intro M0 w0
 rw [Tryz.results133]
 (refine bY 0 rfl fun hf =>?_;simp only [xp,simprocAttr] at hf;simp only [xf,simprocAttr] at hf)
 refine ah ?_
 refine aj amQ (fun hq =>?_) (fun hq =>?_)
 ·have hq:=of_decide_eq_true hq
  omega
 refine ah ?_
 refine aA (α:=Nat) (fun k=>[(3,true,.int (dn w k)),(4,true,.int ((k:Int)+1))]) [0] (fun _=>[]) (fun k=>k<=w.length-1) (fun k=>w.length-1-k) 0 (by exact bW) (Nat.zero_le _) fun k hk =>?_
 simp only [xr,simprocAttr]
 refine ah ?_
 refine aj amQ (fun hc =>?_) (fun hc =>?_)
 ·have hc:=of_decide_eq_true hc
  have hk':k+1<w.length:=by omega
  refine ah ?_
  refine ⟨k+1,by omega,by omega,.inl ?_⟩
  exact bW
 ·have hc:=of_decide_eq_false hc
  have hk':k=w.length-1:=by omega
  subst hk'
  refine ah ?_
  refine bJ ?_
  rfl
theorem Vd (m s:List (List Int)) (w:List Int) (B:Int) (r:Nat) (hp:bg m s=true) (hw:jv m w B) (hB:B<=1000000) (hr:r<s.length):Does Tryz.prog 177 [prA m s,.sl (.ints w),.int r] (.imm (.sl (.ints (fJ m s w r)))):=by
 have hl:=bI hp
 have hrow:=kE hp r hr
 have hwl:=hw.len
 refine aF Tryz.func177 rfl Tryz.ntmps177 aQ (fun _ _=>by kernel_rfl) rfl (Nat.le_of_ble_eq_true rfl) ?_
 intro M0 w0
 rw [Tryz.results177]
 refine ah ?_
 refine aA (α:=Nat) (fun t=>[(8,true,.int t)]) [1,2,3,7] (fun t=>[.box [.b (.sl (.ii m)),.b (.sl (.ii s))],.row 3 (.ints ((List.range t).map fun x=>wAt m s w r x))]) (fun t=>t<=m.length) (fun t=>m.length-t) 0 (by exact bW) (Nat.zero_le _) fun t ht =>?_
 have hlt:((List.range t).map fun x=>wAt m s w r x).length=t:=by simp
 simp only [xr,simprocAttr]
 refine ah ?_
 refine aj amQ (fun hc =>?_) (fun hc =>?_)
 ·have hc:=of_decide_eq_true hc
  have ht':t<m.length:=by omega
  refine ah ?_
  refine aA (α:=Nat) (fun y=>[(9,true,.int (minS (fun y=>decide (0<=at2 s r y)) (lG m s w r t) y)),(10,true,.int y)]) [1,2,3,7,8] (fun _=>[.box [.b (.sl (.ii m)),.b (.sl (.ii s))],.row 3 (.ints ((List.range t).map fun x=>wAt m s w r x))]) (fun y=>y<=m.length) (fun y=>m.length-y) 0 (by exact bW) (Nat.zero_le _) fun y hy =>?_
  simp only [xr,simprocAttr]
  refine ah ?_
  refine aj amQ (fun he =>?_) (fun he =>?_)
  ·have he:=of_decide_eq_true he
   have hy':y<m.length:=by omega
   refine ah ?_
   refine aj amQ (fun hg =>?_) (fun hg =>?_)
   ·have hg:¬ 0<=at2 s r y:=by have hg:=of_decide_eq_true hg;unfold at2;omega
    refine ah ?_
    refine ⟨y+1,by omega,by omega,.inl ?_⟩
    ((try simp only [xk]);(repeat (refine jI ?_ ?_;first | (exact amE) | rotate_left));(try exact mF rfl);(all_goals (try (simp only [xr,simprocAttr];try refine kM ?_))))
    rw [minS,if_neg (by simpa using hg)]
   ·have hg:0<=at2 s r y:=by have hg:=of_decide_eq_false hg;unfold at2;omega
    have h1:=hw.at_ y hy'
    have h2:=wI hp hr y hy'
    have h3:=(iC hp hy').2 t ht'
    have h4:=(iC hp hy').1
    have hof:lG m s w r t y=w.getD y 0+at2 s r y+at2 m y t:=rfl
    unfold at2 at h2 h3 hof
    refine ah ?_
    refine aj amQ (fun hq =>?_) (fun hq =>?_)
    ·have hq:(minS (fun y=>decide (0<=at2 s r y)) (lG m s w r t) y<0\/lG m s w r t y<minS (fun y=>decide (0<=at2 s r y)) (lG m s w r t) y):=Zq.1 hq
     refine ah ?_
     refine ⟨y+1,by omega,by omega,.inl ?_⟩
     ((try simp only [xk]);(repeat (refine jI ?_ ?_;first | (exact amE) | rotate_left));(try exact mF rfl);(all_goals (try (simp only [xr,simprocAttr];try refine kM ?_))))
     rw [minS,if_pos (decide_eq_true hg),if_pos hq]
     rfl
    ·have hq:¬ (minS (fun y=>decide (0<=at2 s r y)) (lG m s w r t) y<0\/lG m s w r t y<minS (fun y=>decide (0<=at2 s r y)) (lG m s w r t) y):=MH.1 hq
     refine ah ?_
     refine ⟨y+1,by omega,by omega,.inl ?_⟩
     ((try simp only [xk]);(repeat (refine jI ?_ ?_;first | (exact amE) | rotate_left));(try exact mF rfl);(all_goals (try (simp only [xr,simprocAttr];try refine kM ?_))))
     rw [minS,if_pos (decide_eq_true hg),if_neg hq]
  ·have he:=of_decide_eq_false he
   have hy':y=m.length:=by omega
   subst hy'
   rw [(Jf hp hw hB hr ht').1]
   refine ah ?_
   refine ⟨t+1,by omega,by omega,.inl ?_⟩
   exact dw (by rw [List.range_succ,List.map_append];rfl)
 ·have hc:=of_decide_eq_false hc
  have ht':t=m.length:=by omega
  subst ht'
  refine jC ?_
  (refine aK 1 rfl ?_;simp only [xz,simprocAttr])
  refine ah ?_
  refine bJ ?_
  rfl
set_option maxHeartbeats 2000000 in
theorem DW (m s:List (List Int)) (w:List Int) (B:Int) (r:Nat) (hp:bg m s=true) (hw:jv m w B) (hB:B<=1000000) (hr:r<s.length):bP Tryz.prog 152 [prA m s,.sl (.ints w),.int r] [] [] (.lf (.own 0)) [.row 3 (.ints (fJ m s w r))]:=by
 have hl:=bI hp
 have hrow:=kE hp r hr
 have hwl:=hw.len
 refine aZ Tryz.func152 rfl Tryz.ntmps152 aQ (fun _ _=>by kernel_rfl) rfl rfl rfl ?_
 intro M0 w0 S φ0
 rw [Tryz.results152]
 refine ah ?_
 (refine .inr (.inl (gJ (ac4 1073741824 w.length (by omega) (by omega)) rfl rfl rfl rfl rfl rfl rfl ?_));refine amC ?_)
 rw [hwl,Ol (s:=s) (w:=w) (r:=r)]
 refine ah ?_
 ((try refine Or.inl ?_);refine ⟨_,(LD m s r hr hrow (by omega)),amF,?_⟩;refine amC ?_)
 refine ah ?_
 refine aA (α:=Nat) (fun t=>[(19,true,.int t)]) [1,2,3,7,17,18] (fun t=>[.box [.b (.sl (.ii m)),.b (.sl (.ii s))],.row 3 (.ints (yN m s w r t 0))]) (fun t=>t<=(srv s m.length r).length) (fun t=>(srv s m.length r).length-t) 0 (by exact bW) (Nat.zero_le _) fun t ht =>?_
 have hl1:=Lu m s w r t 0
 have hsl:=uJ s m.length r
 simp only [xr,simprocAttr]
 refine ah ?_
 refine aj amQ (fun hc =>?_) (fun hc =>?_)
 ·have hc:=of_decide_eq_true hc
  have ht':t<(srv s m.length r).length:=by omega
  obtain ⟨z,hz1,hz2,hz3⟩:=QI ht'
  refine ah ?_
  rw [hz1]
  refine aA (α:=Nat) (fun x=>[(25,true,.int x)]) [1,2,3,7,9,17,18,19,24] (fun x=>[.box [.b (.sl (.ii m)),.b (.sl (.ii s))],.row 3 (.ints (yN m s w r t x))]) (fun x=>x<=m.length) (fun x=>m.length-x) 0 (by exact bW) (Nat.zero_le _) fun x hx =>?_
  have hl2:=Lu m s w r t x
  simp only [xr,simprocAttr]
  refine ah ?_
  refine aj amQ (fun he =>?_) (fun he =>?_)
  ·have he:=of_decide_eq_true he
   have hx':x<m.length:=by omega
   have h1:=hw.at_ z hz2
   have h2:=wI hp hr z hz2
   have h3:=(iC hp hz2).2 x hx'
   have h4:=(iC hp hz2).1
   have hof:lG m s w r x z=w.getD z 0+at2 s r z+at2 m z x:=rfl
   have hat:=YH (s:=s) (w:=w) (r:=r) (t:=t) hx'
   have hst:=WL (w:=w) (x:=x) ht' hz1
   unfold at2 at h2 h3 hof
   refine ah ?_
   (refine amB ?_;refine iD [1] 30 [4,5,29] (by kernel_rfl) (by kernel_rfl) (by kernel_rfl) (by kernel_rfl) (by kernel_rfl) ?_;refine amM ?_)
   refine ah ?_
   rw [hat,← hof,hst]
   refine ⟨x+1,by omega,by omega,.inl ?_⟩
   exact bW
  ·have he:=of_decide_eq_false he
   have hx':x=m.length:=by omega
   subst hx'
   refine ah ?_
   refine ⟨t+1,by omega,by omega,.inl ?_⟩
   exact dw (by rw [SG])
 ·have hc:=of_decide_eq_false hc
  have ht':t=(srv s m.length r).length:=by omega
  subst ht'
  rw [WJ hp hw hB hr]
  refine ah ?_
  (simp only [aC,aH];refine bf [1] rfl ⟨rfl,trivial⟩ rfl rfl rfl rfl rfl ?_;try rfl)
theorem NW (m s:List (List Int)) (w:List Int) (B:Int) (r:Nat) (hp:bg m s=true) (hw:jv m w B) (hB:B<=1000000) (hr:r<s.length):Does Tryz.prog 152 [prA m s,.sl (.ints w),.int r] (.imm (.sl (.ints (fJ m s w r)))):=nG (DW m s w B r hp hw hB hr)
theorem O9 (w:List Int) (hw:0<w.length) (hw2:w.length<=1000):Does Tryz.prog 151 [.sl (.ints w)] (.imm (.sl (.ints w))):=by
 refine aF Tryz.func151 rfl Tryz.ntmps151 aQ (fun _ _=>by kernel_rfl) rfl (Nat.le_of_ble_eq_true rfl) ?_
 intro M0 w0
 rw [Tryz.results151]
 (refine bY 0 rfl fun hf =>?_;simp only [xp,simprocAttr] at hf;simp only [xf,simprocAttr] at hf)
 refine ah ?_
 refine aj amQ (fun hc =>?_) (fun hc =>?_)
 ·cases hc
 refine jC ?_
 (refine aK 0 rfl ?_;simp only [xz,simprocAttr])
 refine ah ?_
 refine bJ ?_
 rfl
theorem acy (m s:List (List Int)) (x:Nat) (rs:List Int) (hp:bg m s=true) (hx:x<m.length) (hq:lX s.length rs) (hl:rs.length<=1000):Does Tryz.prog 134 [prA m s,.int x,.sl (.ints rs)] (.imm (.sl (.ints (tJ m s x rs)))):=by
 have hpl:=bI hp
 have hx1:=(iC hp hx).1
 have hok:=zf hp hx hq hl
 refine aF Tryz.func134 rfl Tryz.ntmps134 aQ (fun _ _=>by kernel_rfl) rfl (Nat.le_of_ble_eq_true rfl) ?_
 intro M0 w0
 rw [Tryz.results134]
 (refine bY 2 rfl fun hf =>?_;simp only [xp,simprocAttr] at hf;simp only [xf,simprocAttr] at hf)
 refine ah ?_
 ((try refine Or.inl ?_);refine ⟨_,(O9 _ (by omega) (by omega)),amF,?_⟩;refine amC ?_)
 refine ah ?_
 refine aA (α:=Nat) (fun k=>[(18,true,.int k),(7,true,.sl (.ints (tJ m s x (rs.take k))))]) [3,16,17] (fun _=>[.box [.b (.sl (.ii m)),.b (.sl (.ii s))]]) (fun k=>k<=rs.length) (fun k=>rs.length-k) 0 (by exact bW) (Nat.zero_le _) fun k hk =>?_
 simp only [xr,simprocAttr]
 refine ah ?_
 refine aj amQ (fun hc =>?_) (fun hc =>?_)
 ·have hc:=of_decide_eq_true hc
  have hk':k<rs.length:=by omega
  obtain ⟨r,h1,h2⟩:=hq.at hk'
  refine ah ?_
  rw [h1]
  ((try refine Or.inl ?_);refine ⟨_,(NW m s (tJ m s x (rs.take k)) (99+119*k) r hp (hok k hk) (by omega) h2),amF,?_⟩;refine amC ?_)
  refine ah ?_
  refine ⟨k+1,by omega,by omega,.inl ?_⟩
  ((try simp only [xk]);(repeat (refine jI ?_ ?_;first | (exact amE) | rotate_left));(try exact mF rfl);(all_goals (try (simp only [xr,simprocAttr];try refine kM ?_))))
  rw [wW hk',h1,Int.toNat_natCast]
 ·have hc:=of_decide_eq_false hc
  have hk':k=rs.length:=by omega
  subst hk'
  refine ah ?_
  refine bJ ?_
  rw [List.take_length]
theorem KL (m s:List (List Int)) (x:Nat) (rs:List Int) (hp:bg m s=true) (hx:x<m.length) (hq:lX s.length rs) (hl:rs.length<=1000):Does Tryz.prog 73 [prA m s,.int x,.sl (.ints rs)] (.imm (.int (IC m s x rs))):=by
 have hpl:=bI hp
 have hok:=zf hp hx hq hl rs.length (Nat.le_refl _)
 rw [List.take_length] at hok
 have hlen:=hok.len
 refine aF Tryz.func73 rfl Tryz.ntmps73 aQ (fun _ _=>by kernel_rfl) rfl (Nat.le_of_ble_eq_true rfl) ?_
 intro M0 w0
 rw [Tryz.results73]
 refine ah ?_
 ((try refine Or.inl ?_);refine ⟨_,(acy m s x rs hp hx hq hl),amF,?_⟩;refine amC ?_)
 ((try refine Or.inl ?_);refine ⟨_,(EF (tJ m s x rs) (by intro e;rw [e] at hlen;simp at hlen;omega)),.inl rfl,?_⟩;refine amC ?_)
 refine ah ?_
 refine bJ ?_
 rw [hlen]
 rfl
end Go.Proofs.YtnblieajjclipaaGreat
namespace Go.Proofs.YtnblieajjclipaaGreat
theorem gcd_mul {k n d:Int} (hk:0<k):(Int.gcd (k*n) (k*d):Int)=k*(Int.gcd n d:Int):=by
 rw [Int.gcd_mul_left]
 have:((k.natAbs:Nat):Int)=k:=by omega
 rw [Int.natCast_mul,this]
theorem Wn {k n d:Int} (hk:0<k):qN (k*n) (k*d)=qN n d:=by
 unfold qN
 rw [gcd_mul hk,Int.mul_tdiv_mul_of_pos _ _ hk]
theorem Wj {k n d:Int} (hk:0<k):qD (k*n) (k*d)=qD n d:=by
 unfold qD
 rw [gcd_mul hk,Int.mul_ediv_mul_of_pos _ _ hk]
theorem JX {n d n' d':Int} (hd:0<d) (hd':0<d') (h:n*d'=n'*d):iL n d=iL n' d'/\jw n d=jw n' d':=by
 have e1:qN n d=qN n' d':=by
  rw [← Wn (k:=d') hd',← Wn (n:=n') (k:=d) hd,Int.mul_comm d' n,h,Int.mul_comm n' d,Int.mul_comm d' d]
 have e2:qD n d=qD n' d':=by
  rw [← Wj (k:=d') hd',← Wj (n:=n') (k:=d) hd,Int.mul_comm d' n,h,Int.mul_comm n' d,Int.mul_comm d' d]
 have e3:iL n d=iL n' d':=by unfold iL;rw [e1,e2]
 exact ⟨e3,by unfold jw;rw [e3,e1,e2]⟩
theorem zW {n d:Int} (hd:0<d):qN n d*(Int.gcd n d:Int)=n:=by
 unfold qN
 exact Int.tdiv_mul_cancel (Int.gcd_dvd_left ..)
theorem wJ {n d:Int} (hd:0<d):qD n d*(Int.gcd n d:Int)=d:=by
 unfold qD
 exact Int.ediv_mul_cancel (Int.gcd_dvd_right ..)
theorem IU {n d:Int} (hd:0<d):0<qD n d:=by
 have h1:=wJ (n:=n) hd
 have h2:=kL n d hd
 rcases Int.lt_trichotomy (qD n d) 0 with h | h | h
 ·have:=Int.mul_neg_of_neg_of_pos h (show (0:Int)<(Int.gcd n d:Int) by omega)
  omega
 ·rw [h,Int.zero_mul] at h1
  omega
 ·exact h
theorem Qx {n d:Int} (hd:0<d):Int.gcd (qN n d) (qD n d)=1:=by
 have h1:=kL n d hd
 have h2:(Int.gcd ((Int.gcd n d:Int)*qN n d) ((Int.gcd n d:Int)*qD n d):Int)=(Int.gcd n d:Int)*(Int.gcd (qN n d) (qD n d):Int):=gcd_mul (by omega)
 rw [Int.mul_comm _ (qN n d),Int.mul_comm _ (qD n d),zW hd,wJ hd] at h2
 have h3:(Int.gcd n d:Int)*((Int.gcd (qN n d) (qD n d):Int)-1)=0:=by rw [Int.mul_sub,← h2];omega
 rcases Int.mul_eq_zero.1 h3 with h | h
 ·omega
 ·omega
theorem VU {n d:Int} (hd:0<d) (hd2:d<=100000) (h1 : -100000000<=n) (h2:n<=100000000):iL n d=true:=by
 have hg:=kL n d hd
 have hq:=wJ (n:=n) hd
 have hn:=zW (n:=n) hd
 have hp:=IU (n:=n) hd
 refine kK.2 ⟨hp,?_,?_,?_,Qx hd⟩
 ·have:qD n d*1<=qD n d*(Int.gcd n d:Int):=Int.mul_le_mul_of_nonneg_left hg (by omega)
  omega
 ·rcases Int.lt_or_le (qN n d) 0 with h | h
  ·have:qN n d*(Int.gcd n d:Int)<=qN n d*1:=Int.mul_le_mul_of_nonpos_left (by omega) hg
   omega
  ·omega
 ·rcases Int.lt_or_le 0 (qN n d) with h | h
  ·have:qN n d*1<=qN n d*(Int.gcd n d:Int):=Int.mul_le_mul_of_nonneg_left hg (by omega)
   omega
  ·omega
structure ru (a:Int×Int) (n d:Int):Prop where
 ok:frB a.1 a.2=true
 eq:a.1*d=n*a.2
 pos:0<d
theorem ru.MW {a:Int×Int} {n d:Int} (h:ru a n d):0<a.2:=by have:=(kK.1 h.ok).1;omega
theorem X8 {n d:Int} (hd:0<d) (h:iL n d=true):ru (jw n d) n d:=by
 have e:jw n d=(qN n d,qD n d):=by unfold jw;rw [if_pos h]
 rw [e]
 refine ⟨h,?_,hd⟩
 show qN n d*d=n*qD n d
 have h1:=zW (n:=n) hd
 have h2:=wJ (n:=n) hd
 calc qN n d*d=qN n d*(qD n d*(Int.gcd n d:Int)):=by rw [h2]
  _=(qN n d*(Int.gcd n d:Int))*qD n d:=by rw [Int.mul_assoc,Int.mul_comm (qD n d)]
  _=n*qD n d:=by rw [h1]
theorem ZB {a b:Int×Int} {A B D:Int} (ha:ru a A D) (hb:ru b B D):iL (a.1*b.2+b.1*a.2) (a.2*b.2)=iL (A+B) D/\jw (a.1*b.2+b.1*a.2) (a.2*b.2)=jw (A+B) D:=by
 refine JX (Int.mul_pos ha.MW hb.MW) ha.pos ?_
 have h1:=ha.eq
 have h2:=hb.eq
 calc (a.1*b.2+b.1*a.2)*D=(a.1*D)*b.2+(b.1*D)*a.2:=by rw [Int.add_mul,Int.mul_right_comm,Int.mul_right_comm b.1]
  _=A*a.2*b.2+B*b.2*a.2:=by rw [h1,h2]
  _=(A+B)*(a.2*b.2):=by rw [Int.add_mul,Int.mul_assoc,Int.mul_assoc,Int.mul_comm b.2]
theorem ZC {a b:Int×Int} {A B D:Int} (ha:ru a A D) (hb:ru b B D):iL (a.1*b.2-b.1*a.2) (a.2*b.2)=iL (A-B) D/\jw (a.1*b.2-b.1*a.2) (a.2*b.2)=jw (A-B) D:=by
 refine JX (Int.mul_pos ha.MW hb.MW) ha.pos ?_
 have h1:=ha.eq
 have h2:=hb.eq
 calc (a.1*b.2-b.1*a.2)*D=(a.1*D)*b.2-(b.1*D)*a.2:=by rw [Int.sub_mul,Int.mul_right_comm,Int.mul_right_comm b.1]
  _=A*a.2*b.2-B*b.2*a.2:=by rw [h1,h2]
  _=(A-B)*(a.2*b.2):=by rw [Int.sub_mul,Int.mul_assoc,Int.mul_assoc,Int.mul_comm b.2]
theorem ru.bd {a:Int×Int} {n d:Int} (h:ru a n d):1<=a.2/\a.2<=100000 /\ -100000000<=a.1/\a.1<=100000000:=by
 have:=kK.1 h.ok
 exact ⟨this.1,this.2.1,this.2.2.1,this.2.2.2.1⟩
theorem NU {x y X Y:Int} (hx : -X<=x/\x<=X) (hy:0<=y/\y<=Y) : -(X*Y)<=x*y/\x*y<=X*Y:=by
 have hX:0<=X:=by omega
 have h1:X*y<=X*Y:=Int.mul_le_mul_of_nonneg_left hy.2 hX
 have h2:x*y<=X*y:=Int.mul_le_mul_of_nonneg_right hx.2 hy.1
 have h3:(-X)*y<=x*y:=Int.mul_le_mul_of_nonneg_right hx.1 hy.1
 rw [Int.neg_mul] at h3
 omega
end Go.Proofs.YtnblieajjclipaaGreat
namespace Go.Proofs.YtnblieajjclipaaGreat
open Go Go.RowKit Am
theorem Kt (n d:Int):Does Tryz.prog 119 [frA (n,d)] (.imm (.bool (frB n d))) :=
 ng (v := .bool (frB n d)) (fun _ _=>by kernel_rfl) fun M w us hm ha=>by
  obtain ⟨u,us',rfl,k1,k2⟩:=dK ha
  obtain rfl:=iH k2
  obtain ⟨a,b,rfl,h1,h2⟩:=zM k1
  obtain rfl:a = .int .i64 n:=h1
  obtain rfl:b = .int .i64 d:=h2
  exact qG w n d
theorem MC (a b:Int×Int) (ha:frB a.1 a.2=true) (hb:frB b.1 b.2=true):Does Tryz.prog 64 [frA a,frA b] (.imm (.bool true)):=by
 refine aF Tryz.func64 rfl Tryz.ntmps64 aQ (fun _ _=>by kernel_rfl) rfl (Nat.le_of_ble_eq_true rfl) ?_
 intro M0 w0
 rw [Tryz.results64]
 refine ah ?_
 ((try refine Or.inl ?_);refine ⟨_,(Kt a.1 a.2),.inl rfl,?_⟩;refine amC ?_)
 refine ah ?_
 ((try refine Or.inl ?_);refine ⟨_,(fun _=>Kt b.1 b.2),.inl rfl,?_⟩;refine amC ?_)
 refine ah ?_
 refine bJ ?_
 rw [ha,hb]
 rfl
structure OpB (a b:Int×Int):Prop where
 h1 : -10000000000000<=a.1*b.2/\a.1*b.2<=10000000000000
 h2 : -10000000000000<=b.1*a.2/\b.1*a.2<=10000000000000
 h3:1<=a.2*b.2/\a.2*b.2<=10000000000
theorem opB {a b:Int×Int} {A B D E:Int} (ha:ru a A D) (hb:ru b B E):OpB a b:=by
 have h1:=ha.bd
 have h2:=hb.bd
 have h3:=Int.mul_pos ha.MW hb.MW
 have k1:=NU (x:=a.1) (y:=b.2) (X:=100000000) (Y:=100000) ⟨by omega,by omega⟩ ⟨by omega,by omega⟩
 have k2:=NU (x:=b.1) (y:=a.2) (X:=100000000) (Y:=100000) ⟨by omega,by omega⟩ ⟨by omega,by omega⟩
 have k3:=NU (x:=a.2) (y:=b.2) (X:=100000) (Y:=100000) ⟨by omega,by omega⟩ ⟨by omega,by omega⟩
 exact ⟨by omega,by omega,by omega⟩
theorem OC {a b:Int×Int} {A B D:Int} (ha:ru a A D) (hb:ru b B D):Does Tryz.prog 25 [frA a,frA b] (.imm (.tup [frT (jw (A-B) D),blT (iL (A-B) D)])):=by
 obtain ⟨h1,h2,h3⟩:=opB ha hb
 obtain ⟨e1,e2⟩:=ZC ha hb
 refine aF Tryz.func25 rfl Tryz.ntmps25 aQ (fun _ _=>by kernel_rfl) rfl (Nat.le_of_ble_eq_true rfl) ?_
 intro M0 w0
 rw [Tryz.results25]
 refine ah ?_
 ((try refine Or.inl ?_);refine ⟨_,(MC a b ha.ok hb.ok),.inl rfl,?_⟩;refine amC ?_)
 refine ah ?_
 refine aj amQ (fun hc =>?_) (fun hc =>?_)
 ·cases hc
 refine ah ?_
 ((try refine Or.inl ?_);refine ⟨_,(NK (a.1*b.2-b.1*a.2) (a.2*b.2) (by omega) (by omega) (by omega) (by omega)),amF,?_⟩;refine amC ?_)
 rw [e1,e2]
 refine ah ?_
 refine AU ?_
 rfl
theorem Yb {a b:Int×Int} {A B D:Int} (ha:ru a A D) (hb:ru b B D):Does Tryz.prog 117 [frA a,frA b] (.imm (.tup [frT (jw (A+B) D),blT (iL (A+B) D)])):=by
 obtain ⟨h1,h2,h3⟩:=opB ha hb
 obtain ⟨e1,e2⟩:=ZB ha hb
 refine aF Tryz.func117 rfl Tryz.ntmps117 aQ (fun _ _=>by kernel_rfl) rfl (Nat.le_of_ble_eq_true rfl) ?_
 intro M0 w0
 rw [Tryz.results117]
 refine ah ?_
 ((try refine Or.inl ?_);refine ⟨_,(DC (a.1*b.2+b.1*a.2) (a.2*b.2) (by omega) (by omega) (by omega) (by omega)),amF,?_⟩;refine amC ?_)
 rw [e1,e2]
 refine ah ?_
 refine AU ?_
 rfl
theorem ru.neg {a:Int×Int} {n d:Int} (h:ru a n d):ru (-a.1,a.2) (-n) d:=by
 have h1:=kK.1 h.ok
 refine ⟨kK.2 ⟨h1.1,h1.2.1,?_,?_,?_⟩,?_,h.pos⟩
 ·show -100000000 <= -a.1
  omega
 ·show -a.1<=100000000
  omega
 ·show Int.gcd (-a.1) a.2=1
  rw [Int.neg_gcd]
  exact h1.2.2.2.2
 ·show -a.1*d = -n*a.2
  rw [Int.neg_mul,Int.neg_mul,h.eq]
end Go.Proofs.YtnblieajjclipaaGreat
