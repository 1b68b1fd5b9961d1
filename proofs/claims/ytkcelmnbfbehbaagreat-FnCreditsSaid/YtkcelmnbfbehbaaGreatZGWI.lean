/- Work functions on the machine: the reference's. Conditions: problems that are right. -/
import Derived.Test.YtkcelmnbfbehbaaGreatGWO
import Derived.Test.YtkcelmnbfbehbaaGreatZMR
set_option linter.all false
namespace Go.Proofs.YtkcelmnbfbehbaaGreat
open Go Go.RowKit Am
theorem RZ (a b:Int):Does Tryz.prog 157 [.int a,.int b] (.imm (.int (min a b))):=by
 refine aF Tryz.func157 rfl Tryz.ntmps157 aP (fun _ _=>by kernel_rfl) rfl (Nat.le_of_ble_eq_true rfl) ?_
 intro M0 w0
 rw [Tryz.results157]
 refine ah ?_
 refine aj amQ (fun hc =>?_) (fun hc =>?_)
 ·have hc:=of_decide_eq_true hc
  refine ah ?_
  refine bI ?_
  rw [show min a b=a by omega]
 ·have hc:=of_decide_eq_false hc
  refine ah ?_
  refine bI ?_
  rw [show min a b=b by omega]
theorem GK (w:List Int) (hw:w≠[]):Does Tryz.prog 122 [.sl (.ints w)] (.imm (.int (dw w (w.length-1)))):=by
 have hl:0<w.length:=List.length_pos_iff.2 hw
 refine aF Tryz.func122 rfl Tryz.ntmps122 aP (fun _ _=>by kernel_rfl) rfl (Nat.le_of_ble_eq_true rfl) ?_
 intro M0 w0
 rw [Tryz.results122]
 (refine dB 0 rfl fun hf =>?_;simp only [xp,simprocAttr] at hf;simp only [xf,simprocAttr] at hf)
 refine ah ?_
 refine aA (α:=Nat) (fun k=>[(3,true,.int (dw w k)),(4,true,.int ((k:Int)+1))]) [0] (fun _=>[]) (fun k=>k<=w.length-1) (fun k=>w.length-1-k) 0 (by exact bY) (Nat.zero_le _) fun k hk =>?_
 simp only [xr,simprocAttr]
 refine ah ?_
 refine aj amQ (fun hc =>?_) (fun hc =>?_)
 ·have hc:=of_decide_eq_true hc
  have hk':k+1<w.length:=by omega
  refine ah ?_
  ((try refine Or.inl ?_);refine ⟨_,(RZ _ _),.inl rfl,?_⟩;refine amC ?_)
  refine ah ?_
  refine ⟨k+1,by omega,by omega,.inl ?_⟩
  exact bY
 ·have hc:=of_decide_eq_false hc
  have hk':k=w.length-1:=by omega
  subst hk'
  refine ah ?_
  refine bI ?_
  rfl
theorem Fh (w:List Int) (hw:w≠[]):Does Tryz.prog 119 [.sl (.ints w)] (.imm (.int (dw w (w.length-1)))):=by
 have hl:0<w.length:=List.length_pos_iff.2 hw
 refine aF Tryz.func119 rfl Tryz.ntmps119 aP (fun _ _=>by kernel_rfl) rfl (Nat.le_of_ble_eq_true rfl) ?_
 intro M0 w0
 rw [Tryz.results119]
 (refine dB 0 rfl fun hf =>?_;simp only [xp,simprocAttr] at hf;simp only [xf,simprocAttr] at hf)
 refine ah ?_
 refine aj amQ (fun hq =>?_) (fun hq =>?_)
 ·have hq:=of_decide_eq_true hq
  omega
 refine ah ?_
 refine aA (α:=Nat) (fun k=>[(3,true,.int (dw w k)),(4,true,.int ((k:Int)+1))]) [0] (fun _=>[]) (fun k=>k<=w.length-1) (fun k=>w.length-1-k) 0 (by exact bY) (Nat.zero_le _) fun k hk =>?_
 simp only [xr,simprocAttr]
 refine ah ?_
 refine aj amQ (fun hc =>?_) (fun hc =>?_)
 ·have hc:=of_decide_eq_true hc
  have hk':k+1<w.length:=by omega
  refine ah ?_
  refine ⟨k+1,by omega,by omega,.inl ?_⟩
  exact bY
 ·have hc:=of_decide_eq_false hc
  have hk':k=w.length-1:=by omega
  subst hk'
  refine ah ?_
  refine bI ?_
  rfl
theorem Vr (m s:List (List Int)) (w:List Int) (B:Int) (r:Nat) (hp:bg m s=true) (hw:jq m w B) (hB:B<=1000000) (hr:r<s.length):Does Tryz.prog 165 [prA m s,.sl (.ints w),.int r] (.imm (.sl (.ints (fO m s w r)))):=by
 have hl:=bC hp
 have hrow:=iZ hp r hr
 have hwl:=hw.len
 refine aF Tryz.func165 rfl Tryz.ntmps165 aP (fun _ _=>by kernel_rfl) rfl (Nat.le_of_ble_eq_true rfl) ?_
 intro M0 w0
 rw [Tryz.results165]
 refine ah ?_
 refine aA (α:=Nat) (fun t=>[(8,true,.int t)]) [1,2,3,7] (fun t=>[.box [.b (.sl (.ii m)),.b (.sl (.ii s))],.row 3 (.ints ((List.range t).map fun x=>wAt m s w r x))]) (fun t=>t<=m.length) (fun t=>m.length-t) 0 (by exact bY) (Nat.zero_le _) fun t ht =>?_
 have hlt:((List.range t).map fun x=>wAt m s w r x).length=t:=by simp
 simp only [xr,simprocAttr]
 refine ah ?_
 refine aj amQ (fun hc =>?_) (fun hc =>?_)
 ·have hc:=of_decide_eq_true hc
  have ht':t<m.length:=by omega
  refine ah ?_
  refine aA (α:=Nat) (fun y=>[(9,true,.int (minS (fun y=>decide (0<=at2 s r y)) (lD m s w r t) y)),(10,true,.int y)]) [1,2,3,7,8] (fun _=>[.box [.b (.sl (.ii m)),.b (.sl (.ii s))],.row 3 (.ints ((List.range t).map fun x=>wAt m s w r x))]) (fun y=>y<=m.length) (fun y=>m.length-y) 0 (by exact bY) (Nat.zero_le _) fun y hy =>?_
  simp only [xr,simprocAttr]
  refine ah ?_
  refine aj amQ (fun he =>?_) (fun he =>?_)
  ·have he:=of_decide_eq_true he
   have hy':y<m.length:=by omega
   refine ah ?_
   refine aj amQ (fun hg =>?_) (fun hg =>?_)
   ·have hg:¬ 0<=at2 s r y:=by have hg:=of_decide_eq_true hg;unfold at2;omega
    refine ah ?_
    refine ⟨y+1,by omega,by omega,.inl ?_⟩
    ((try simp only [xk]);(repeat (refine jG ?_ ?_;first | (exact amE) | rotate_left));(try exact lZ rfl);(all_goals (try (simp only [xr,simprocAttr];try refine kL ?_))))
    rw [minS,if_neg (by simpa using hg)]
   ·have hg:0<=at2 s r y:=by have hg:=of_decide_eq_false hg;unfold at2;omega
    have h1:=hw.at_ y hy'
    have h2:=uh hp hr y hy'
    have h3:=(gY hp hy').2 t ht'
    have h4:=(gY hp hy').1
    have hof:lD m s w r t y=w.getD y 0+at2 s r y+at2 m y t:=rfl
    unfold at2 at h2 h3 hof
    refine ah ?_
    refine aj amQ (fun hq =>?_) (fun hq =>?_)
    ·have hq:(minS (fun y=>decide (0<=at2 s r y)) (lD m s w r t) y<0\/lD m s w r t y<minS (fun y=>decide (0<=at2 s r y)) (lD m s w r t) y):=Zr.1 hq
     refine ah ?_
     refine ⟨y+1,by omega,by omega,.inl ?_⟩
     ((try simp only [xk]);(repeat (refine jG ?_ ?_;first | (exact amE) | rotate_left));(try exact lZ rfl);(all_goals (try (simp only [xr,simprocAttr];try refine kL ?_))))
     rw [minS,if_pos (decide_eq_true hg),if_pos hq]
     rfl
    ·have hq:¬ (minS (fun y=>decide (0<=at2 s r y)) (lD m s w r t) y<0\/lD m s w r t y<minS (fun y=>decide (0<=at2 s r y)) (lD m s w r t) y):=MO.1 hq
     refine ah ?_
     refine ⟨y+1,by omega,by omega,.inl ?_⟩
     ((try simp only [xk]);(repeat (refine jG ?_ ?_;first | (exact amE) | rotate_left));(try exact lZ rfl);(all_goals (try (simp only [xr,simprocAttr];try refine kL ?_))))
     rw [minS,if_pos (decide_eq_true hg),if_neg hq]
  ·have he:=of_decide_eq_false he
   have hy':y=m.length:=by omega
   subst hy'
   rw [(Jr hp hw hB hr ht').1]
   refine ah ?_
   refine ⟨t+1,by omega,by omega,.inl ?_⟩
   exact bV (by rw [List.range_succ,List.map_append];rfl)
 ·have hc:=of_decide_eq_false hc
  have ht':t=m.length:=by omega
  subst ht'
  refine jd ?_
  (refine aN 1 rfl ?_;simp only [xz,simprocAttr])
  refine ah ?_
  refine bI ?_
  rfl
set_option maxHeartbeats 2000000 in
theorem Ey (m s:List (List Int)) (w:List Int) (B:Int) (r:Nat) (hp:bg m s=true) (hw:jq m w B) (hB:B<=1000000) (hr:r<s.length):bJ Tryz.prog 142 [prA m s,.sl (.ints w),.int r] [] [] (.lf (.own 0)) [.row 3 (.ints (fO m s w r))]:=by
 have hl:=bC hp
 have hrow:=iZ hp r hr
 have hwl:=hw.len
 refine aU Tryz.func142 rfl Tryz.ntmps142 aP (fun _ _=>by kernel_rfl) rfl rfl rfl ?_
 intro M0 w0 S φ0
 rw [Tryz.results142]
 refine ah ?_
 (refine .inr (.inl (fC (ade 1073741824 w.length (by omega) (by omega)) rfl rfl rfl rfl rfl rfl rfl ?_));refine amC ?_)
 rw [hwl,Oy (s:=s) (w:=w) (r:=r)]
 refine ah ?_
 ((try refine Or.inl ?_);refine ⟨_,(LV m s r hr hrow (by omega)),amF,?_⟩;refine amC ?_)
 refine ah ?_
 refine aA (α:=Nat) (fun t=>[(19,true,.int t)]) [1,2,3,7,17,18] (fun t=>[.box [.b (.sl (.ii m)),.b (.sl (.ii s))],.row 3 (.ints (yV m s w r t 0))]) (fun t=>t<=(srv s m.length r).length) (fun t=>(srv s m.length r).length-t) 0 (by exact bY) (Nat.zero_le _) fun t ht =>?_
 have hl1:=LQ m s w r t 0
 have hsl:=uZ s m.length r
 simp only [xr,simprocAttr]
 refine ah ?_
 refine aj amQ (fun hc =>?_) (fun hc =>?_)
 ·have hc:=of_decide_eq_true hc
  have ht':t<(srv s m.length r).length:=by omega
  obtain ⟨z,hz1,hz2,hz3⟩:=QU ht'
  refine ah ?_
  rw [hz1]
  refine aA (α:=Nat) (fun x=>[(25,true,.int x)]) [1,2,3,7,9,17,18,19,24] (fun x=>[.box [.b (.sl (.ii m)),.b (.sl (.ii s))],.row 3 (.ints (yV m s w r t x))]) (fun x=>x<=m.length) (fun x=>m.length-x) 0 (by exact bY) (Nat.zero_le _) fun x hx =>?_
  have hl2:=LQ m s w r t x
  simp only [xr,simprocAttr]
  refine ah ?_
  refine aj amQ (fun he =>?_) (fun he =>?_)
  ·have he:=of_decide_eq_true he
   have hx':x<m.length:=by omega
   have h1:=hw.at_ z hz2
   have h2:=uh hp hr z hz2
   have h3:=(gY hp hz2).2 x hx'
   have h4:=(gY hp hz2).1
   have hof:lD m s w r x z=w.getD z 0+at2 s r z+at2 m z x:=rfl
   have hat:=YI (s:=s) (w:=w) (r:=r) (t:=t) hx'
   have hst:=WY (w:=w) (x:=x) ht' hz1
   unfold at2 at h2 h3 hof
   refine ah ?_
   (refine amB ?_;refine iE [1] 30 [4,5,29] (by kernel_rfl) (by kernel_rfl) (by kernel_rfl) (by kernel_rfl) (by kernel_rfl) ?_;refine amM ?_)
   refine ah ?_
   rw [hat,← hof,hst]
   refine ⟨x+1,by omega,by omega,.inl ?_⟩
   exact bY
  ·have he:=of_decide_eq_false he
   have hx':x=m.length:=by omega
   subst hx'
   refine ah ?_
   refine ⟨t+1,by omega,by omega,.inl ?_⟩
   exact bV (by rw [SY])
 ·have hc:=of_decide_eq_false hc
  have ht':t=(srv s m.length r).length:=by omega
  subst ht'
  rw [WX hp hw hB hr]
  refine ah ?_
  (simp only [aB,aH];refine aW [1] rfl ⟨rfl,trivial⟩ rfl rfl rfl rfl rfl ?_;try rfl)
theorem Oa (m s:List (List Int)) (w:List Int) (B:Int) (r:Nat) (hp:bg m s=true) (hw:jq m w B) (hB:B<=1000000) (hr:r<s.length):Does Tryz.prog 142 [prA m s,.sl (.ints w),.int r] (.imm (.sl (.ints (fO m s w r)))):=pq (Ey m s w B r hp hw hB hr)
theorem Px (w:List Int) (hw:0<w.length) (hw2:w.length<=1000):Does Tryz.prog 128 [.sl (.ints w)] (.imm (.sl (.ints w))):=by
 refine aF Tryz.func128 rfl Tryz.ntmps128 aP (fun _ _=>by kernel_rfl) rfl (Nat.le_of_ble_eq_true rfl) ?_
 intro M0 w0
 rw [Tryz.results128]
 (refine dB 0 rfl fun hf =>?_;simp only [xp,simprocAttr] at hf;simp only [xf,simprocAttr] at hf)
 refine ah ?_
 refine aj amQ (fun hc =>?_) (fun hc =>?_)
 ·cases hc
 refine jd ?_
 (refine aN 0 rfl ?_;simp only [xz,simprocAttr])
 refine ah ?_
 refine bI ?_
 rfl
theorem acF (m s:List (List Int)) (x:Nat) (rs:List Int) (hp:bg m s=true) (hx:x<m.length) (hq:jJ s.length rs) (hl:rs.length<=1000):Does Tryz.prog 120 [prA m s,.int x,.sl (.ints rs)] (.imm (.sl (.ints (uq m s x rs)))):=by
 have hpl:=bC hp
 have hx1:=(gY hp hx).1
 have hok:=zu hp hx hq hl
 refine aF Tryz.func120 rfl Tryz.ntmps120 aP (fun _ _=>by kernel_rfl) rfl (Nat.le_of_ble_eq_true rfl) ?_
 intro M0 w0
 rw [Tryz.results120]
 (refine dB 2 rfl fun hf =>?_;simp only [xp,simprocAttr] at hf;simp only [xf,simprocAttr] at hf)
 refine ah ?_
 ((try refine Or.inl ?_);refine ⟨_,(Px _ (by omega) (by omega)),amF,?_⟩;refine amC ?_)
 refine ah ?_
 refine aA (α:=Nat) (fun k=>[(18,true,.int k),(7,true,.sl (.ints (uq m s x (rs.take k))))]) [3,16,17] (fun _=>[.box [.b (.sl (.ii m)),.b (.sl (.ii s))]]) (fun k=>k<=rs.length) (fun k=>rs.length-k) 0 (by exact bY) (Nat.zero_le _) fun k hk =>?_
 simp only [xr,simprocAttr]
 refine ah ?_
 refine aj amQ (fun hc =>?_) (fun hc =>?_)
 ·have hc:=of_decide_eq_true hc
  have hk':k<rs.length:=by omega
  obtain ⟨r,h1,h2⟩:=hq.at hk'
  refine ah ?_
  rw [h1]
  ((try refine Or.inl ?_);refine ⟨_,(Oa m s (uq m s x (rs.take k)) (99+119*k) r hp (hok k hk) (by omega) h2),amF,?_⟩;refine amC ?_)
  refine ah ?_
  refine ⟨k+1,by omega,by omega,.inl ?_⟩
  ((try simp only [xk]);(repeat (refine jG ?_ ?_;first | (exact amE) | rotate_left));(try exact lZ rfl);(all_goals (try (simp only [xr,simprocAttr];try refine kL ?_))))
  rw [xI hk',h1,Int.toNat_natCast]
 ·have hc:=of_decide_eq_false hc
  have hk':k=rs.length:=by omega
  subst hk'
  refine ah ?_
  refine bI ?_
  rw [List.take_length]
theorem KW (m s:List (List Int)) (x:Nat) (rs:List Int) (hp:bg m s=true) (hx:x<m.length) (hq:jJ s.length rs) (hl:rs.length<=1000):Does Tryz.prog 60 [prA m s,.int x,.sl (.ints rs)] (.imm (.int (I7 m s x rs))):=by
 have hpl:=bC hp
 have hok:=zu hp hx hq hl rs.length (Nat.le_refl _)
 rw [List.take_length] at hok
 have hlen:=hok.len
 refine aF Tryz.func60 rfl Tryz.ntmps60 aP (fun _ _=>by kernel_rfl) rfl (Nat.le_of_ble_eq_true rfl) ?_
 intro M0 w0
 rw [Tryz.results60]
 refine ah ?_
 ((try refine Or.inl ?_);refine ⟨_,(acF m s x rs hp hx hq hl),amF,?_⟩;refine amC ?_)
 ((try refine Or.inl ?_);refine ⟨_,(Fh (uq m s x rs) (by intro e;rw [e] at hlen;simp at hlen;omega)),.inl rfl,?_⟩;refine amC ?_)
 refine ah ?_
 refine bI ?_
 rw [hlen]
 rfl
end Go.Proofs.YtkcelmnbfbehbaaGreat
namespace Go.Proofs.YtkcelmnbfbehbaaGreat
theorem G5 {m s:List (List Int)} {w:List Int} {l:List (List Int)} {r:Nat} {i:Nat} (h:i<(bW m s w l r).length):∀ d,(bW m s w l (r+d)).getD i []=(bW m s w l r).getD i []/\i<(bW m s w l (r+d)).length
 | 0=>⟨rfl,h⟩
 | d+1=>by
  obtain ⟨h1,h2⟩:=G5 h d
  have h3:=Jy (x:=iH m s w (r+d)) (d:=[]) h2
  have h4:=(xJ (bW m s w l (r+d)) (iH m s w (r+d))).1
  exact ⟨h3.trans h1,by show i<(kQ (bW m s w l (r+d)) (iH m s w (r+d))).length;omega⟩
theorem Yr {m s:List (List Int)} {w:List Int} {l:List (List Int)} {n r:Nat} (hr:r<n):∃ k:Nat,(Ah m s w l n).getD r 0=k/\k<(bW m s w l n).length/\(bW m s w l n).getD k []=iH m s w r:=by
 obtain ⟨k,h1,h2,h3⟩:=CP (bW m s w l r) (iH m s w r) []
 have h4:=G5 (m:=m) (s:=s) (w:=w) (l:=l) (r:=r+1) (i:=k) h2 (n-(r+1))
 rw [show r+1+(n-(r+1))=n by omega] at h4
 refine ⟨k,?_,h4.2,h4.1.trans h3⟩
 rw [← h1]
 simp [Ah,hr]
theorem V4 {m s:List (List Int)} {w:List Int} {n r:Nat} (hr:r<n):(oN m s w n).getD r 0=iR m s w r:=by simp [oN,hr]
structure TF (m s:List (List Int)) (t:dF) (i:Nat):Prop where
 nlen:t.next.length=i
 glen:t.grows.length=i
 at_:∀ j r,j<i->r<s.length->∃ k:Nat,(t.next.getD j []).getD r 0=k/\k<t.list.length/\t.list.getD k []=iH m s (t.list.getD j []) r/\(t.grows.getD j []).getD r 0=iR m s (t.list.getD j []) r
theorem Oe {m s:List (List Int)} {x:Nat}:∀ i,(∀ j,j<i->j<(aO m s x j).list.length)->TF m s (aO m s x i) i
 | 0,_=>⟨rfl,rfl,fun j r hj=>by omega⟩
 | i+1,h=>by
  have ih:=Oe i fun j hj=>h j (by omega)
  have hi:=h i (by omega)
  generalize ht:aO m s x i=t at ih hi
  have hget:∀ k,k<t.list.length->(bW m s (t.list.getD i []) t.list s.length).getD k []=t.list.getD k []:=fun k hk=>tV hk s.length
  have hle:=(lu m s (t.list.getD i []) t.list s.length).1
  have e:aO m s x (i+1)=⟨bW m s (t.list.getD i []) t.list s.length,t.next++[Ah m s (t.list.getD i []) t.list s.length],t.grows++[oN m s (t.list.getD i []) s.length]⟩:=by rw [← ht];rfl
  rw [e]
  refine ⟨by simp [ih.nlen],by simp [ih.glen],fun j r hj hr =>?_⟩
  by_cases hji:j<i
  ·obtain ⟨k,h1,h2,h3,h4⟩:=ih.at_ j r hji hr
   refine ⟨k,?_,?_,?_,?_⟩
   ·show ((t.next++[_]).getD j []).getD r 0=_
    rw [gX (by rw [ih.nlen];exact hji)]
    exact h1
   ·show k<(bW m s (t.list.getD i []) t.list s.length).length
    omega
   ·show (bW m s (t.list.getD i []) t.list s.length).getD k []=iH m s ((bW m s (t.list.getD i []) t.list s.length).getD j []) r
    rw [hget k h2,hget j (by omega)]
    exact h3
   ·show ((t.grows++[_]).getD j []).getD r 0=iR m s ((bW m s (t.list.getD i []) t.list s.length).getD j []) r
    rw [gX (by rw [ih.glen];exact hji),hget j (by omega)]
    exact h4
  ·obtain rfl:j=i:=by omega
   obtain ⟨k,h1,h2,h3⟩:=Yr (m:=m) (s:=s) (w:=t.list.getD j []) (l:=t.list) hr
   refine ⟨k,?_,h2,?_,?_⟩
   ·show ((t.next++[_]).getD j []).getD r 0=_
    rw [iI ih.nlen.symm]
    exact h1
   ·show (bW m s (t.list.getD j []) t.list s.length).getD k []=iH m s ((bW m s (t.list.getD j []) t.list s.length).getD j []) r
    rw [hget j hi]
    exact h3
   ·show ((t.grows++[_]).getD j []).getD r 0=iR m s ((bW m s (t.list.getD j []) t.list s.length).getD j []) r
    rw [iI ih.glen.symm,hget j hi]
    exact V4 hr
theorem GY {p:Nat->Bool} {f g:Nat->Int} {c:Int} (hc:0<=c):∀ n,(∀ y,y<n->p y=true->g y=f y+c/\f y+c<=1152921504606846976)->fF p g n=fF p f n+c\/(fF p f n=1152921504606846976/\fF p g n=1152921504606846976)
 | 0,_ => .inr ⟨rfl,rfl⟩
 | n+1,h=>by
  have ih:=GY hc n fun y hy=>h y (by omega)
  simp only [fF]
  cases hp:p n with
  | false=>simpa using ih
  | true =>
   obtain ⟨h1,h2⟩:=h n (by omega) hp
   simp only [if_true]
   left
   rcases ih with ih | ⟨i1,i2⟩
   ·omega
   ·omega
theorem YO {m s:List (List Int)} {w w':List Int} {B c:Int} (hp:bg m s=true) (hw:jq m w B) (hB:B<=1000000) (hc:0<=c) (hc2:c<=1000000) (h:∀ y,y<m.length->w'.getD y 0=w.getD y 0+c) {r x:Nat} (hr:r<s.length) (hx:x<m.length):wAt m s w' r x=wAt m s w r x+c:=by
 have h1:=(Jr hp hw hB hr hx).2
 unfold wAt at h1 ⊢
 rcases GY (p:=fun y=>decide (0<=at2 s r y)) (f:=lD m s w r x) (g:=lD m s w' r x) hc m.length (fun y hy hs=>by
  have h2:=Rj hp hw hr hx hy (of_decide_eq_true hs)
  have h3:=h y hy
  unfold lD at h2 ⊢
  omega) with h4 | ⟨h4,h5⟩
 ·exact h4
 ·omega
theorem tJ {m s:List (List Int)} {w:List Int} {r x:Nat} (hx:x<m.length):(fO m s w r).getD x 0=wAt m s w r x:=by
 unfold fO
 rw [dN _ _ hx]
theorem CO {m s:List (List Int)} {w:List Int} {r x:Nat} (hx:x<m.length):(iH m s w r).getD x 0=wAt m s w r x-iR m s w r:=by
 unfold iH
 rw [yF (by rw [Ae];exact hx),tJ hx]
theorem wL {w w':List Int} {c:Int}:∀ k,(∀ y,y<=k->w'.getD y 0=w.getD y 0+c)->dw w' k=dw w k+c
 | 0,h=>h 0 (Nat.le_refl _)
 | k+1,h=>by
  have h1:=wL k fun y hy=>h y (by omega)
  have h2:=h (k+1) (Nat.le_refl _)
  simp only [dw]
  omega
theorem Og {m s:List (List Int)} {w:List Int} {r:Nat} (hm:0<m.length):dw (iH m s w r) (m.length-1)=0:=by
 have h:=wL (w:=fO m s w r) (w':=iH m s w r) (c := - iR m s w r) (m.length-1) fun y hy=>by rw [CO (by omega),tJ (by omega)];omega
 rw [h]
 unfold iR
 omega
def nO (t:dF) (rs:List Int):Nat:=rs.foldl (fun j r=>((t.next.getD j []).getD r.toNat 0).toNat) 0
def growS (t:dF):Nat->List Int->Int
 | _,[]=>0
 | j,r::rs=>(t.grows.getD j []).getD r.toNat 0+growS t (((t.next.getD j []).getD r.toNat 0).toNat) rs
theorem wH (t:dF):∀ (rs:List Int) (j:Nat) (r:Int),growS t j (rs++[r])=growS t j rs+(t.grows.getD (rs.foldl (fun j r=>((t.next.getD j []).getD r.toNat 0).toNat) j) []).getD r.toNat 0
 | [],j,r=>by simp [growS]
 | a::rs,j,r=>by
  rw [List.cons_append,growS,growS,wH t rs,Int.add_assoc]
  rfl
theorem Hz {m s:List (List Int)} {x:Nat} {t:dF} (hp:bg m s=true) (hx:x<m.length) (ht:TF m s t t.list.length) (h0:0<t.list.length) (hf:t.list.getD 0 []=m.getD x []) (hgr:∀ w r,w<t.list.length->r<s.length->0<=(t.grows.getD w []).getD r 0/\(t.grows.getD w []).getD r 0<=119) (hz:dw (m.getD x []) (m.length-1)=0) (hel:∀ v∈t.list,jq m v 99) {rs:List Int} (hq:jJ s.length rs) (hl:rs.length<=1000):∀ k,k<=rs.length ->
  nO t (rs.take k)<t.list.length/\0<=growS t 0 (rs.take k)/\growS t 0 (rs.take k)<=119*k/\dw (t.list.getD (nO t (rs.take k)) []) (m.length-1)=0/\∀ y,y<m.length->(uq m s x (rs.take k)).getD y 0=(t.list.getD (nO t (rs.take k)) []).getD y 0+growS t 0 (rs.take k)
 | 0,_=>by
  refine ⟨h0,Int.le_refl _,by simp [growS],?_,fun y hy =>?_⟩
  ·show dw (t.list.getD 0 []) _=0
   rw [hf]
   exact hz
  ·show (m.getD x []).getD y 0=(t.list.getD 0 []).getD y 0+0
   rw [hf];omega
 | k+1,hk=>by
  obtain ⟨h1,h2,h3,h4,h5⟩:=Hz hp hx ht h0 hf hgr hz hel hq hl k (by omega)
  have hr1:=hq (rs.getD k 0) (by rw [getD_in (show k<rs.length by omega)];exact List.getElem_mem _)
  have hr:(rs.getD k 0).toNat<s.length:=by omega
  obtain ⟨k',q1,q2,q3,q4⟩:=ht.at_ _ _ h1 hr
  have q5:=hgr _ _ h1 hr
  have hw:=hel _ (show t.list.getD (nO t (rs.take k)) []∈t.list by rw [getD_in h1];exact List.getElem_mem _)
  have e1:nO t (rs.take (k+1))=k':=by
   unfold nO
   rw [bD (show k<rs.length by omega) 0,List.foldl_append]
   show ((t.next.getD (nO t (rs.take k)) []).getD (rs.getD k 0).toNat 0).toNat=k'
   rw [q1]
   rfl
  have e2:growS t 0 (rs.take (k+1))=growS t 0 (rs.take k)+(t.grows.getD (nO t (rs.take k)) []).getD (rs.getD k 0).toNat 0:=by
   rw [bD (show k<rs.length by omega) 0,wH]
   rfl
  rw [e1,e2]
  refine ⟨q2,by omega,by omega,?_,fun y hy =>?_⟩
  ·rw [q3]
   exact Og (by omega)
  ·rw [xI (by omega),tJ hy,YO hp hw (by omega) h2 (by omega) h5 hr hy,q3,CO hy]
   omega
theorem Wn {m s:List (List Int)} {x:Nat} {t:dF} (hp:bg m s=true) (hx:x<m.length) (ht:TF m s t t.list.length) (h0:0<t.list.length) (hf:t.list.getD 0 []=m.getD x []) (hgr:∀ w r,w<t.list.length->r<s.length->0<=(t.grows.getD w []).getD r 0/\(t.grows.getD w []).getD r 0<=119) (hz:dw (m.getD x []) (m.length-1)=0) (hel:∀ v∈t.list,jq m v 99) {rs:List Int} (hq:jJ s.length rs) (hl:rs.length<=1000):I7 m s x rs=growS t 0 rs:=by
 have h:=Hz hp hx ht h0 hf hgr hz hel hq hl rs.length (Nat.le_refl _)
 rw [List.take_length] at h
 obtain ⟨h1,h2,h3,h4,h5⟩:=h
 unfold I7
 rw [wL (m.length-1) fun y hy=>h5 y (by omega),h4]
 omega
end Go.Proofs.YtkcelmnbfbehbaaGreat
