/- Work functions on the machine: the reference's. Conditions: problems that are right. -/
import Derived.Test.YtkcelmnbfbehbaaGreatGWO
import Derived.Test.YtkcelmnbfbehbaaGreatMR
set_option linter.all false
namespace Go.Proofs.YtkcelmnbfbehbaaGreat
open Go Go.RowKit Am
theorem Q9 (a b:Int):Does Tryz.prog 157 [.int a,.int b] (.imm (.int (min a b))):=by
 refine aC Tryz.func157 rfl Tryz.ntmps157 aX (fun _ _=>by kernel_rfl) rfl (Nat.le_of_ble_eq_true rfl) ?_
 intro M0 w0
 rw [Tryz.results157]
 refine ah ?_
 refine aj amQ (fun hc =>?_) (fun hc =>?_)
 ·have hc:=of_decide_eq_true hc
  refine ah ?_
  refine bV ?_
  rw [show min a b=a by omega]
 ·have hc:=of_decide_eq_false hc
  refine ah ?_
  refine bV ?_
  rw [show min a b=b by omega]
theorem FZ (w:List Int) (hw:w≠[]):Does Tryz.prog 122 [.sl (.ints w)] (.imm (.int (fH w (w.length-1)))):=by
 have hl:0<w.length:=List.length_pos_iff.2 hw
 refine aC Tryz.func122 rfl Tryz.ntmps122 aX (fun _ _=>by kernel_rfl) rfl (Nat.le_of_ble_eq_true rfl) ?_
 intro M0 w0
 rw [Tryz.results122]
 (refine dJ 0 rfl fun hf =>?_;simp only [xp,simprocAttr] at hf;simp only [xf,simprocAttr] at hf)
 refine ah ?_
 refine au (α:=Nat) (fun k=>[(3,true,.int (fH w k)),(4,true,.int ((k:Int)+1))]) [0] (fun _=>[]) (fun k=>k<=w.length-1) (fun k=>w.length-1-k) 0 (by exact dQ) (Nat.zero_le _) fun k hk =>?_
 simp only [xr,simprocAttr]
 refine ah ?_
 refine aj amQ (fun hc =>?_) (fun hc =>?_)
 ·have hc:=of_decide_eq_true hc
  have hk':k+1<w.length:=by omega
  refine ah ?_
  ((try refine Or.inl ?_);refine ⟨_,(Q9 _ _),.inl rfl,?_⟩;refine amC ?_)
  refine ah ?_
  refine ⟨k+1,by omega,by omega,.inl ?_⟩
  exact dQ
 ·have hc:=of_decide_eq_false hc
  have hk':k=w.length-1:=by omega
  subst hk'
  refine ah ?_
  refine bV ?_
  rfl
theorem Ol (w:List Int) (hw:w≠[]):Does Tryz.prog 119 [.sl (.ints w)] (.imm (.int (fH w (w.length-1)))):=by
 have hl:0<w.length:=List.length_pos_iff.2 hw
 refine aC Tryz.func119 rfl Tryz.ntmps119 aX (fun _ _=>by kernel_rfl) rfl (Nat.le_of_ble_eq_true rfl) ?_
 intro M0 w0
 rw [Tryz.results119]
 (refine dJ 0 rfl fun hf =>?_;simp only [xp,simprocAttr] at hf;simp only [xf,simprocAttr] at hf)
 refine ah ?_
 refine aj amQ (fun hq =>?_) (fun hq =>?_)
 ·have hq:=of_decide_eq_true hq
  omega
 refine ah ?_
 refine au (α:=Nat) (fun k=>[(3,true,.int (fH w k)),(4,true,.int ((k:Int)+1))]) [0] (fun _=>[]) (fun k=>k<=w.length-1) (fun k=>w.length-1-k) 0 (by exact dQ) (Nat.zero_le _) fun k hk =>?_
 simp only [xr,simprocAttr]
 refine ah ?_
 refine aj amQ (fun hc =>?_) (fun hc =>?_)
 ·have hc:=of_decide_eq_true hc
  have hk':k+1<w.length:=by omega
  refine ah ?_
  refine ⟨k+1,by omega,by omega,.inl ?_⟩
  exact dQ
 ·have hc:=of_decide_eq_false hc
  have hk':k=w.length-1:=by omega
  subst hk'
  refine ah ?_
  refine bV ?_
  rfl
theorem Va (m s:List (List Int)) (w:List Int) (B:Int) (r:Nat) (hp:aO m s=true) (hw:kW m w B) (hB:B<=1000000) (hr:r<s.length):Does Tryz.prog 165 [prA m s,.sl (.ints w),.int r] (.imm (.sl (.ints (gY m s w r)))):=by
 have hl:=aQ hp
 have hrow:=eG hp r hr
 have hwl:=hw.len
 refine aC Tryz.func165 rfl Tryz.ntmps165 aX (fun _ _=>by kernel_rfl) rfl (Nat.le_of_ble_eq_true rfl) ?_
 intro M0 w0
 rw [Tryz.results165]
 refine ah ?_
 refine au (α:=Nat) (fun t=>[(8,true,.int t)]) [1,2,3,7] (fun t=>[.box [.b (.sl (.ii m)),.b (.sl (.ii s))],.row 3 (.ints ((List.range t).map fun x=>wAt m s w r x))]) (fun t=>t<=m.length) (fun t=>m.length-t) 0 (by exact dQ) (Nat.zero_le _) fun t ht =>?_
 have hlt:((List.range t).map fun x=>wAt m s w r x).length=t:=by simp
 simp only [xr,simprocAttr]
 refine ah ?_
 refine aj amQ (fun hc =>?_) (fun hc =>?_)
 ·have hc:=of_decide_eq_true hc
  have ht':t<m.length:=by omega
  refine ah ?_
  refine au (α:=Nat) (fun y=>[(9,true,.int (minS (fun y=>decide (0<=at2 s r y)) (ou m s w r t) y)),(10,true,.int y)]) [1,2,3,7,8] (fun _=>[.box [.b (.sl (.ii m)),.b (.sl (.ii s))],.row 3 (.ints ((List.range t).map fun x=>wAt m s w r x))]) (fun y=>y<=m.length) (fun y=>m.length-y) 0 (by exact dQ) (Nat.zero_le _) fun y hy =>?_
  simp only [xr,simprocAttr]
  refine ah ?_
  refine aj amQ (fun he =>?_) (fun he =>?_)
  ·have he:=of_decide_eq_true he
   have hy':y<m.length:=by omega
   refine ah ?_
   refine aj amQ (fun hg =>?_) (fun hg =>?_)
   ·have hg:¬ 0<=at2 s r y:=by have hg:=of_decide_eq_true hg;unfold at2;omega
    refine ah ?_
    refine ⟨y+1,by omega,by omega,.inl ?_⟩
    ((try simp only [xk]);(repeat (refine fP ?_ ?_;first | (exact amE) | rotate_left));(try exact gZ rfl);(all_goals (try (simp only [xr,simprocAttr];try refine gQ ?_))))
    rw [minS,if_neg (by simpa using hg)]
   ·have hg:0<=at2 s r y:=by have hg:=of_decide_eq_false hg;unfold at2;omega
    have h1:=hw.at_ y hy'
    have h2:=qW hp hr y hy'
    have h3:=(iH hp hy').2 t ht'
    have h4:=(iH hp hy').1
    have hof:ou m s w r t y=w.getD y 0+at2 s r y+at2 m y t:=rfl
    unfold at2 at h2 h3 hof
    refine ah ?_
    refine aj amQ (fun hq =>?_) (fun hq =>?_)
    ·have hq:(minS (fun y=>decide (0<=at2 s r y)) (ou m s w r t) y<0\/ou m s w r t y<minS (fun y=>decide (0<=at2 s r y)) (ou m s w r t) y):=ZO.1 hq
     refine ah ?_
     refine ⟨y+1,by omega,by omega,.inl ?_⟩
     ((try simp only [xk]);(repeat (refine fP ?_ ?_;first | (exact amE) | rotate_left));(try exact gZ rfl);(all_goals (try (simp only [xr,simprocAttr];try refine gQ ?_))))
     rw [minS,if_pos (decide_eq_true hg),if_pos hq]
     rfl
    ·have hq:¬ (minS (fun y=>decide (0<=at2 s r y)) (ou m s w r t) y<0\/ou m s w r t y<minS (fun y=>decide (0<=at2 s r y)) (ou m s w r t) y):=L8.1 hq
     refine ah ?_
     refine ⟨y+1,by omega,by omega,.inl ?_⟩
     ((try simp only [xk]);(repeat (refine fP ?_ ?_;first | (exact amE) | rotate_left));(try exact gZ rfl);(all_goals (try (simp only [xr,simprocAttr];try refine gQ ?_))))
     rw [minS,if_pos (decide_eq_true hg),if_neg hq]
  ·have he:=of_decide_eq_false he
   have hy':y=m.length:=by omega
   subst hy'
   rw [(Oy hp hw hB hr ht').1]
   refine ah ?_
   refine ⟨t+1,by omega,by omega,.inl ?_⟩
   exact bI (by rw [List.range_succ,List.map_append];rfl)
 ·have hc:=of_decide_eq_false hc
  have ht':t=m.length:=by omega
  subst ht'
  refine kY ?_
  (refine aU 1 rfl ?_;simp only [xz,simprocAttr])
  refine ah ?_
  refine bV ?_
  rfl
set_option maxHeartbeats 2000000 in
theorem NS (m s:List (List Int)) (w:List Int) (B:Int) (r:Nat) (hp:aO m s=true) (hw:kW m w B) (hB:B<=1000000) (hr:r<s.length):bG Tryz.prog 142 [prA m s,.sl (.ints w),.int r] [] [] (.lf (.own 0)) [.row 3 (.ints (gY m s w r))]:=by
 have hl:=aQ hp
 have hrow:=eG hp r hr
 have hwl:=hw.len
 refine bY Tryz.func142 rfl Tryz.ntmps142 aX (fun _ _=>by kernel_rfl) rfl rfl rfl ?_
 intro M0 w0 S φ0
 rw [Tryz.results142]
 refine ah ?_
 (refine .inr (.inl (fU (aar 1073741824 w.length (by omega) (by omega)) rfl rfl rfl rfl rfl rfl rfl ?_));refine amC ?_)
 rw [hwl,Oe (s:=s) (w:=w) (r:=r)]
 refine ah ?_
 ((try refine Or.inl ?_);refine ⟨_,(oh m s r hr hrow (by omega)),amF,?_⟩;refine amC ?_)
 refine ah ?_
 refine au (α:=Nat) (fun t=>[(19,true,.int t)]) [1,2,3,7,17,18] (fun t=>[.box [.b (.sl (.ii m)),.b (.sl (.ii s))],.row 3 (.ints (yH m s w r t 0))]) (fun t=>t<=(srv s m.length r).length) (fun t=>(srv s m.length r).length-t) 0 (by exact dQ) (Nat.zero_le _) fun t ht =>?_
 have hl1:=LG m s w r t 0
 have hsl:=qY s m.length r
 simp only [xr,simprocAttr]
 refine ah ?_
 refine aj amQ (fun hc =>?_) (fun hc =>?_)
 ·have hc:=of_decide_eq_true hc
  have ht':t<(srv s m.length r).length:=by omega
  obtain ⟨z,hz1,hz2,hz3⟩:=IZ ht'
  refine ah ?_
  rw [hz1]
  refine au (α:=Nat) (fun x=>[(25,true,.int x)]) [1,2,3,7,9,17,18,19,24] (fun x=>[.box [.b (.sl (.ii m)),.b (.sl (.ii s))],.row 3 (.ints (yH m s w r t x))]) (fun x=>x<=m.length) (fun x=>m.length-x) 0 (by exact dQ) (Nat.zero_le _) fun x hx =>?_
  have hl2:=LG m s w r t x
  simp only [xr,simprocAttr]
  refine ah ?_
  refine aj amQ (fun he =>?_) (fun he =>?_)
  ·have he:=of_decide_eq_true he
   have hx':x<m.length:=by omega
   have h1:=hw.at_ z hz2
   have h2:=qW hp hr z hz2
   have h3:=(iH hp hz2).2 x hx'
   have h4:=(iH hp hz2).1
   have hof:ou m s w r x z=w.getD z 0+at2 s r z+at2 m z x:=rfl
   have hat:=YS (s:=s) (w:=w) (r:=r) (t:=t) hx'
   have hst:=WM (w:=w) (x:=x) ht' hz1
   unfold at2 at h2 h3 hof
   refine ah ?_
   (refine amB ?_;refine fF [1] 30 [4,5,29] (by kernel_rfl) (by kernel_rfl) (by kernel_rfl) (by kernel_rfl) (by kernel_rfl) ?_;refine amM ?_)
   refine ah ?_
   rw [hat,← hof,hst]
   refine ⟨x+1,by omega,by omega,.inl ?_⟩
   exact dQ
  ·have he:=of_decide_eq_false he
   have hx':x=m.length:=by omega
   subst hx'
   refine ah ?_
   refine ⟨t+1,by omega,by omega,.inl ?_⟩
   exact bI (by rw [RJ])
 ·have hc:=of_decide_eq_false hc
  have ht':t=(srv s m.length r).length:=by omega
  subst ht'
  rw [WL hp hw hB hr]
  refine ah ?_
  (simp only [aG,aN];refine dw [1] rfl ⟨rfl,trivial⟩ rfl rfl rfl rfl rfl ?_;try rfl)
theorem XI (w:List Int) (hw:0<w.length) (hw2:w.length<=1000):Does Tryz.prog 128 [.sl (.ints w)] (.imm (.sl (.ints w))):=by
 refine aC Tryz.func128 rfl Tryz.ntmps128 aX (fun _ _=>by kernel_rfl) rfl (Nat.le_of_ble_eq_true rfl) ?_
 intro M0 w0
 rw [Tryz.results128]
 (refine dJ 0 rfl fun hf =>?_;simp only [xp,simprocAttr] at hf;simp only [xf,simprocAttr] at hf)
 refine ah ?_
 refine aj amQ (fun hc =>?_) (fun hc =>?_)
 ·cases hc
 refine kY ?_
 (refine aU 0 rfl ?_;simp only [xz,simprocAttr])
 refine ah ?_
 refine bV ?_
 rfl
end Go.Proofs.YtkcelmnbfbehbaaGreat
