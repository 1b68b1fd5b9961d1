/- The least costs by the growths: the plain laws of offsets. Conditions: problems that are right. -/
import Derived.Test.YtlhdeofkhajigaaGreatGWO
import Derived.Test.YtlhdeofkhajigaaGreatPR
import Derived.Test.YtlhdeofkhajigaaGreatRatP
import Derived.Test.YtlhdeofkhajigaaGreatGED
import Derived.Test.YtlhdeofkhajigaaGreatCB
set_option linter.all false
set_option linter.unusedSimpArgs false
set_option linter.unusedVariables false
namespace Go.Proofs.YtlhdeofkhajigaaGreat

theorem offL_more {m s:List (List Int)} {w:List Int} {l:List (List Int)} {r:Nat} {i:Nat} (h:i<(offL m s w l r).length):∀ d,(offL m s w l (r+d)).getD i []=(offL m s w l r).getD i []∧i<(offL m s w l (r+d)).length
  | 0=>⟨rfl,h⟩
  | d+1=>by
    obtain ⟨h1,h2⟩:=offL_more h d
    have h3:=addT_get (x:=offW m s w (r+d)) (d:=[]) h2
    have h4:=(addT_len (offL m s w l (r+d)) (offW m s w (r+d))).1
    exact ⟨h3.trans h1,by show i<(addT (offL m s w l (r+d)) (offW m s w (r+d))).length;omega⟩
/-- where the table says that an offset goes, there the offset's next lies -/
theorem offN_ok {m s:List (List Int)} {w:List Int} {l:List (List Int)} {n r:Nat} (hr:r<n):∃ k:Nat,(offN m s w l n).getD r 0=k∧k<(offL m s w l n).length∧(offL m s w l n).getD k []=offW m s w r:=by
  obtain ⟨k,h1,h2,h3⟩:=posT_ok (offL m s w l r) (offW m s w r) []
  have h4:=offL_more (m:=m) (s:=s) (w:=w) (l:=l) (r:=r+1) (i:=k) h2 (n-(r+1))
  rw [show r+1+(n-(r+1))=n by omega] at h4
  refine ⟨k,?_,h4.2,h4.1.trans h3⟩
  rw [← h1]
  simp [offN,hr]
theorem offGs_at {m s:List (List Int)} {w:List Int} {n r:Nat} (hr:r<n):(offGs m s w n).getD r 0=offG m s w r:=by simp [offGs,hr]
/-- what an offset table says, at every request, of the offsets that it has gone through -/
structure OffX (m s:List (List Int)) (t:OffT) (i:Nat):Prop where
  nlen:t.next.length=i
  glen:t.grows.length=i
  at_:∀ j r,j<i→r<s.length→∃ k:Nat,(t.next.getD j []).getD r 0=k∧k<t.list.length∧t.list.getD k []=offW m s (t.list.getD j []) r∧(t.grows.getD j []).getD r 0=offG m s (t.list.getD j []) r
theorem offT_x {m s:List (List Int)} {x:Nat}:∀ i,(∀ j,j<i→j<(offT m s x j).list.length)→OffX m s (offT m s x i) i
  | 0,_=>⟨rfl,rfl,fun j r hj=>by omega⟩
  | i+1,h=>by
    have ih:=offT_x i fun j hj=>h j (by omega)
    have hi:=h i (by omega)
    generalize ht:offT m s x i=t at ih hi
    have hget:∀ k,k<t.list.length→(offL m s (t.list.getD i []) t.list s.length).getD k []=t.list.getD k []:=fun k hk=>offL_get hk s.length
    have hle:=(offL_len m s (t.list.getD i []) t.list s.length).1
    have e:offT m s x (i+1)=⟨offL m s (t.list.getD i []) t.list s.length,t.next++[offN m s (t.list.getD i []) t.list s.length],t.grows++[offGs m s (t.list.getD i []) s.length]⟩:=by rw [← ht];rfl
    rw [e]
    refine ⟨by simp [ih.nlen],by simp [ih.glen],fun j r hj hr => ?_⟩
    by_cases hji:j<i
    · obtain ⟨k,h1,h2,h3,h4⟩:=ih.at_ j r hji hr
      refine ⟨k,?_,?_,?_,?_⟩
      · show ((t.next++[_]).getD j []).getD r 0=_
        rw [getD_app (by rw [ih.nlen];exact hji)]
        exact h1
      · show k<(offL m s (t.list.getD i []) t.list s.length).length
        omega
      · show (offL m s (t.list.getD i []) t.list s.length).getD k []=offW m s ((offL m s (t.list.getD i []) t.list s.length).getD j []) r
        rw [hget k h2,hget j (by omega)]
        exact h3
      · show ((t.grows++[_]).getD j []).getD r 0=offG m s ((offL m s (t.list.getD i []) t.list s.length).getD j []) r
        rw [getD_app (by rw [ih.glen];exact hji),hget j (by omega)]
        exact h4
    · obtain rfl:j=i:=by omega
      obtain ⟨k,h1,h2,h3⟩:=offN_ok (m:=m) (s:=s) (w:=t.list.getD j []) (l:=t.list) hr
      refine ⟨k,?_,h2,?_,?_⟩
      · show ((t.next++[_]).getD j []).getD r 0=_
        rw [getD_last ih.nlen.symm]
        exact h1
      · show (offL m s (t.list.getD j []) t.list s.length).getD k []=offW m s ((offL m s (t.list.getD j []) t.list s.length).getD j []) r
        rw [hget j hi]
        exact h3
      · show ((t.grows++[_]).getD j []).getD r 0=offG m s ((offL m s (t.list.getD j []) t.list s.length).getD j []) r
        rw [getD_last ih.glen.symm,hget j hi]
        exact offGs_at hr
theorem minTo_add {p:Nat→Bool} {f g:Nat→Int} {c:Int} (hc:0≤c):∀ n,(∀ y,y<n→p y=true→g y=f y+c∧f y+c≤1152921504606846976)→minTo p g n=minTo p f n+c∨(minTo p f n=1152921504606846976∧minTo p g n=1152921504606846976)
  | 0,_ => .inr ⟨rfl,rfl⟩
  | n+1,h=>by
    have ih:=minTo_add hc n fun y hy=>h y (by omega)
    simp only [minTo]
    cases hp:p n with
    | false=>simpa using ih
    | true =>
      obtain ⟨h1,h2⟩:=h n (by omega) hp
      simp only [if_true]
      left
      rcases ih with ih | ⟨i1,i2⟩
      · omega
      · omega
theorem wAt_add {m s:List (List Int)} {w w':List Int} {B c:Int} (hp:probB m s=true) (hw:WkOK m w B) (hB:B≤1000000) (hc:0≤c) (hc2:c≤1000000) (h:∀ y,y<m.length→w'.getD y 0=w.getD y 0+c) {r x:Nat} (hr:r<s.length) (hx:x<m.length):wAt m s w' r x=wAt m s w r x+c:=by
  have h1:=(wAt_ok hp hw hB hr hx).2
  unfold wAt at h1 ⊢
  rcases minTo_add (p:=fun y=>decide (0≤at2 s r y)) (f:=wOff m s w r x) (g:=wOff m s w' r x) hc m.length (fun y hy hs=>by
    have h2:=wOff_bd hp hw hr hx hy (of_decide_eq_true hs)
    have h3:=h y hy
    unfold wOff at h2 ⊢
    omega) with h4 | ⟨h4,h5⟩
  · exact h4
  · omega
theorem nextM_at {m s:List (List Int)} {w:List Int} {r x:Nat} (hx:x<m.length):(nextM m s w r).getD x 0=wAt m s w r x:=by
  unfold nextM
  rw [rangeMap_getD _ _ hx]
theorem offW_at {m s:List (List Int)} {w:List Int} {r x:Nat} (hx:x<m.length):(offW m s w r).getD x 0=wAt m s w r x-offG m s w r:=by
  unfold offW
  rw [lessM_at (by rw [nextM_len];exact hx),nextM_at hx]
theorem leastM_add {w w':List Int} {c:Int}:∀ k,(∀ y,y≤k→w'.getD y 0=w.getD y 0+c)→leastM w' k=leastM w k+c
  | 0,h=>h 0 (Nat.le_refl _)
  | k+1,h=>by
    have h1:=leastM_add k fun y hy=>h y (by omega)
    have h2:=h (k+1) (Nat.le_refl _)
    simp only [leastM]
    omega
theorem offW_least {m s:List (List Int)} {w:List Int} {r:Nat} (hm:0<m.length):leastM (offW m s w r) (m.length-1)=0:=by
  have h:=leastM_add (w:=nextM m s w r) (w':=offW m s w r) (c := - offG m s w r) (m.length-1) fun y hy=>by rw [offW_at (by omega),nextM_at (by omega)];omega
  rw [h]
  unfold offG
  omega
/-- the offset after requests, and the sum of the growths -/
def offAt (t:OffT) (rs:List Int):Nat:=rs.foldl (fun j r=>((t.next.getD j []).getD r.toNat 0).toNat) 0
def growS (t:OffT):Nat→List Int→Int
  | _,[]=>0
  | j,r::rs=>(t.grows.getD j []).getD r.toNat 0+growS t (((t.next.getD j []).getD r.toNat 0).toNat) rs
theorem growS_snoc (t:OffT):∀ (rs:List Int) (j:Nat) (r:Int),growS t j (rs++[r])=growS t j rs+(t.grows.getD (rs.foldl (fun j r=>((t.next.getD j []).getD r.toNat 0).toNat) j) []).getD r.toNat 0
  | [],j,r=>by simp [growS]
  | a::rs,j,r=>by
    rw [List.cons_append,growS,growS,growS_snoc t rs,Int.add_assoc]
    rfl
/-- least costs are offsets and the sum of growths -/
theorem work_grow {m s:List (List Int)} {x:Nat} {t:OffT} (hp:probB m s=true) (hx:x<m.length) (ht:OffX m s t t.list.length) (h0:0<t.list.length) (hf:t.list.getD 0 []=m.getD x []) (hgr:∀ w r,w<t.list.length→r<s.length→0≤(t.grows.getD w []).getD r 0∧(t.grows.getD w []).getD r 0≤119) (hz:leastM (m.getD x []) (m.length-1)=0) (hel:∀ v∈t.list,WkOK m v 99) {rs:List Int} (hq:reqsB s.length rs) (hl:rs.length≤1000):∀ k,k≤rs.length →
    offAt t (rs.take k)<t.list.length∧0≤growS t 0 (rs.take k)∧growS t 0 (rs.take k)≤119*k∧leastM (t.list.getD (offAt t (rs.take k)) []) (m.length-1)=0∧∀ y,y<m.length→(workM m s x (rs.take k)).getD y 0=(t.list.getD (offAt t (rs.take k)) []).getD y 0+growS t 0 (rs.take k)
  | 0,_=>by
    refine ⟨h0,Int.le_refl _,by simp [growS],?_,fun y hy => ?_⟩
    · show leastM (t.list.getD 0 []) _=0
      rw [hf]
      exact hz
    · show (m.getD x []).getD y 0=(t.list.getD 0 []).getD y 0+0
      rw [hf];omega
  | k+1,hk=>by
    obtain ⟨h1,h2,h3,h4,h5⟩:=work_grow hp hx ht h0 hf hgr hz hel hq hl k (by omega)
    have hr1:=hq (rs.getD k 0) (by rw [getD_in (show k<rs.length by omega)];exact List.getElem_mem _)
    have hr:(rs.getD k 0).toNat<s.length:=by omega
    obtain ⟨k',q1,q2,q3,q4⟩:=ht.at_ _ _ h1 hr
    have q5:=hgr _ _ h1 hr
    have hw:=hel _ (show t.list.getD (offAt t (rs.take k)) []∈t.list by rw [getD_in h1];exact List.getElem_mem _)
    have e1:offAt t (rs.take (k+1))=k':=by
      unfold offAt
      rw [take_getD (show k<rs.length by omega) 0,List.foldl_append]
      show ((t.next.getD (offAt t (rs.take k)) []).getD (rs.getD k 0).toNat 0).toNat=k'
      rw [q1]
      rfl
    have e2:growS t 0 (rs.take (k+1))=growS t 0 (rs.take k)+(t.grows.getD (offAt t (rs.take k)) []).getD (rs.getD k 0).toNat 0:=by
      rw [take_getD (show k<rs.length by omega) 0,growS_snoc]
      rfl
    rw [e1,e2]
    refine ⟨q2,by omega,by omega,?_,fun y hy => ?_⟩
    · rw [q3]
      exact offW_least (by omega)
    · rw [workM_take (by omega),nextM_at hy,wAt_add hp hw (by omega) h2 (by omega) h5 hr hy,q3,offW_at hy]
      omega
/-- the least cost of requests is the sum of the growths -/
theorem opt_grow {m s:List (List Int)} {x:Nat} {t:OffT} (hp:probB m s=true) (hx:x<m.length) (ht:OffX m s t t.list.length) (h0:0<t.list.length) (hf:t.list.getD 0 []=m.getD x []) (hgr:∀ w r,w<t.list.length→r<s.length→0≤(t.grows.getD w []).getD r 0∧(t.grows.getD w []).getD r 0≤119) (hz:leastM (m.getD x []) (m.length-1)=0) (hel:∀ v∈t.list,WkOK m v 99) {rs:List Int} (hq:reqsB s.length rs) (hl:rs.length≤1000):optM m s x rs=growS t 0 rs:=by
  have h:=work_grow hp hx ht h0 hf hgr hz hel hq hl rs.length (Nat.le_refl _)
  rw [List.take_length] at h
  obtain ⟨h1,h2,h3,h4,h5⟩:=h
  unfold optM
  rw [leastM_add (m.length-1) fun y hy=>h5 y (by omega),h4]
  omega
end Go.Proofs.YtlhdeofkhajigaaGreat
/- What a graph of pairs says of each edge: the plain laws. Conditions: none. -/
set_option linter.all false
set_option linter.unusedSimpArgs false
set_option linter.unusedVariables false
namespace Go.Proofs.YtlhdeofkhajigaaGreat

theorem prAll_rlen (m s next:List (List Int)) (t:OffT) (i st w:Nat) (l:List (List Int)) (r:Nat):(prAll m s next t i st w l r).2.length=r:=(prAll_len m s next t i st w l r).2.2
theorem prAll_more {m s next:List (List Int)} {t:OffT} {i st w:Nat} {l:List (List Int)} {r j:Nat} (h:j<(prAll m s next t i st w l r).1.length):∀ d,(prAll m s next t i st w l (r+d)).1.getD j []=(prAll m s next t i st w l r).1.getD j []∧j<(prAll m s next t i st w l (r+d)).1.length
  | 0=>⟨rfl,h⟩
  | d+1=>by
    obtain ⟨h1,h2⟩:=prAll_more h d
    have h3:=addT_get (x:=keyG t w (r+d) (nxS next st (r+d))) (d:=[]) h2
    have h4:=(addT_len (prAll m s next t i st w l (r+d)).1 (keyG t w (r+d) (nxS next st (r+d)))).1
    exact ⟨h3.trans h1,Nat.lt_of_lt_of_le h2 h4⟩
theorem prAll_row {m s next:List (List Int)} {t:OffT} {i st w:Nat} {l:List (List Int)} {r:Nat}:∀ n,r<n→(prAll m s next t i st w l n).2.getD r []=egG m s next t i st w (prAll m s next t i st w l r).1 r
  | 0,h=>by omega
  | n+1,h=>by
    have hl:=prAll_rlen m s next t i st w l n
    show ((prAll m s next t i st w l n).2++[_]).getD r []=_
    by_cases hr:r<n
    · rw [getD_app (by omega)]
      exact prAll_row n hr
    · obtain rfl:r=n:=by omega
      rw [getD_last hl.symm]
/-- where an edge leads: a pair of the algorithm's next state and the offset's next -/
theorem prAll_ok {m s next:List (List Int)} {t:OffT} {i st w:Nat} {l:List (List Int)} {n r:Nat} (hr:r<n):∃ k:Nat,(prAll m s next t i st w l n).2.getD r []=[(i:Int),(k:Int),costG m s st r (nxS next st r),growG t w r]∧k<(prAll m s next t i st w l n).1.length∧(prAll m s next t i st w l n).1.getD k []=keyG t w r (nxS next st r):=by
  obtain ⟨k,h1,h2,h3⟩:=posT_ok (prAll m s next t i st w l r).1 (keyG t w r (nxS next st r)) []
  have h4:=prAll_more (m:=m) (s:=s) (next:=next) (t:=t) (i:=i) (st:=st) (w:=w) (l:=l) (r:=r+1) (j:=k) h2 (n-(r+1))
  rw [show r+1+(n-(r+1))=n by omega] at h4
  refine ⟨k,?_,h4.2,h4.1.trans h3⟩
  rw [prAll_row n hr,← h1]
  rfl
/-- what a graph of pairs says, at every request, of the pairs that it has gone through -/
structure PrX (m s next:List (List Int)) (t:OffT) (g:PrT) (i:Nat):Prop where
  rlen:g.rows.length=i
  at_:∀ j r,j<i→r<s.length→∃ k:Nat,(g.rows.getD j []).getD r []=[(j:Int),(k:Int),costG m s (prState g j) r (nxS next (prState g j) r),growG t (prOff g j) r]∧k<g.list.length∧g.list.getD k []=keyG t (prOff g j) r (nxS next (prState g j) r)
theorem prT_x {m s next:List (List Int)} {t:OffT} {x:Nat}:∀ i,(∀ j,j<i→j<(prT m s next t x j).list.length)→PrX m s next t (prT m s next t x i) i
  | 0,_=>⟨rfl,fun j r hj=>by omega⟩
  | i+1,h=>by
    have ih:=prT_x i fun j hj=>h j (by omega)
    have hi:=h i (by omega)
    generalize hg:prT m s next t x i=g at ih hi
    obtain ⟨l',hl'⟩:∃ l',l'=(prAll m s next t i (prState g i) (prOff g i) g.list s.length).1:=⟨_,rfl⟩
    have e:prT m s next t x (i+1)=⟨l',g.rows++[(prAll m s next t i (prState g i) (prOff g i) g.list s.length).2]⟩:=by rw [hl',← hg];rfl
    have hget:∀ k,k<g.list.length→l'.getD k []=g.list.getD k []∧k<l'.length:=fun k hk=>by
      have:=prAll_more (m:=m) (s:=s) (next:=next) (t:=t) (i:=i) (st:=prState g i) (w:=prOff g i) (l:=g.list) (r:=0) (j:=k) hk s.length
      rw [Nat.zero_add] at this
      rw [hl']
      exact this
    rw [e]
    have hst:∀ j,j≤i→prState ⟨l',g.rows++[(prAll m s next t i (prState g i) (prOff g i) g.list s.length).2]⟩ j=prState g j∧prOff ⟨l',g.rows++[(prAll m s next t i (prState g i) (prOff g i) g.list s.length).2]⟩ j=prOff g j:=fun j hj=>by
      unfold prState prOff
      simp only
      rw [(hget j (by omega)).1]
      exact ⟨rfl,rfl⟩
    refine ⟨by simp [ih.rlen],fun j r hj hr => ?_⟩
    rw [(hst j (by omega)).1,(hst j (by omega)).2]
    by_cases hji:j<i
    · obtain ⟨k,h1,h2,h3⟩:=ih.at_ j r hji hr
      refine ⟨k,?_,(hget k h2).2,(hget k h2).1.trans h3⟩
      show ((g.rows++[_]).getD j []).getD r []=_
      rw [getD_app (by rw [ih.rlen];exact hji)]
      exact h1
    · obtain rfl:j=i:=by omega
      obtain ⟨k,h1,h2,h3⟩:=prAll_ok (m:=m) (s:=s) (next:=next) (t:=t) (i:=j) (st:=prState g j) (w:=prOff g j) (l:=g.list) hr
      refine ⟨k,?_,by rw [hl'];exact h2,by rw [hl'];exact h3⟩
      show ((g.rows++[_]).getD j []).getD r []=_
      rw [getD_last ih.rlen.symm]
      exact h1
end Go.Proofs.YtlhdeofkhajigaaGreat
/- Costs and growths along requests, in a graph of pairs: the sums are the algorithm's cost and the least cost. The plain laws. Conditions: problems, algorithms and sequences that are right. -/
set_option linter.all false
set_option linter.unusedSimpArgs false
set_option linter.unusedVariables false
namespace Go.Proofs.YtlhdeofkhajigaaGreat
open Am

theorem offT_mono {m s:List (List Int)} {x:Nat}:∀ i,(offT m s x i).list.getD 0 []=m.getD x []∧0<(offT m s x i).list.length
  | 0=>⟨rfl,Nat.zero_lt_one⟩
  | i+1=>by
    obtain ⟨h1,h2⟩:=offT_mono (m:=m) (s:=s) (x:=x) i
    have h3:=offL_len m s ((offT m s x i).list.getD i []) (offT m s x i).list s.length
    exact ⟨(offL_get h2 s.length).trans h1,Nat.lt_of_lt_of_le h2 h3.1⟩
/-- the offsets' table, when it is whole -/
structure OffW (m s:List (List Int)) (x:Nat) (t:OffT):Prop where
  x_:OffX m s t t.list.length
  pos:0<t.list.length
  fst:t.list.getD 0 []=m.getD x []
  tab:TabOK s t
  el:∀ v∈t.list,WkOK m v 99
theorem offs_w {m s:List (List Int)} {x:Nat} (hp:probB m s=true) (hx:x<m.length) (h:(offs m s x).2=false):OffW m s x (offs m s x).1:=by
  have htab:=tab_ok hp hx h
  unfold offs at h htab ⊢
  obtain ⟨k,h1,h2,h3,h4⟩:=offRun_good 500 0 h fun j hj=>by omega
  rw [h1] at htab ⊢
  have hle:k≤(offT m s x k).list.length:=by
    cases k with
    | zero=>omega
    | succ k =>
      have h5:=h4 k (by omega)
      have h6:=(offL_len m s ((offT m s x k).list.getD k []) (offT m s x k).list s.length).1
      show k+1≤(offL m s ((offT m s x k).list.getD k []) (offT m s x k).list s.length).length
      omega
  have hlen:(offT m s x k).list.length=k:=by omega
  have hX:=offT_x (m:=m) (s:=s) (x:=x) k h4
  obtain ⟨h7,h8⟩:=offT_mono (m:=m) (s:=s) (x:=x) k
  refine ⟨?_,h8,h7,htab,offT_tight hp hx k⟩
  show OffX m s (offT m s x k) (offT m s x k).list.length
  rw [hlen]
  exact hX
theorem least_0 {m s:List (List Int)} {x:Nat} (hp:probB m s=true) (hx:x<m.length):leastM (m.getD x []) (m.length-1)=0:=by
  have h1:=leastM_le (m.getD x []) (m.length-1) x (by omega)
  have h2:=prob_0 hp hx
  unfold at2 at h2
  have h3:=prob_m hp hx
  have h4:=(leastM_bd (m:=m) (w:=m.getD x []) (B:=99) ⟨h3.1,fun y hy=>h3.2 y hy⟩ (m.length-1) (by omega)).1
  omega
/-- the pairs' graph, when it is whole -/
structure PrW (m s next:List (List Int)) (t:OffT) (x:Nat) (g:PrT):Prop where
  x_:PrX m s next t g g.list.length
  ok:PrOK m s t g g.list.length
  fst:g.list.getD 0 []=[(x:Int),0]
theorem prT_mono {m s next:List (List Int)} {t:OffT} {x:Nat}:∀ i,(prT m s next t x i).list.getD 0 []=[(x:Int),0]∧0<(prT m s next t x i).list.length
  | 0=>⟨rfl,Nat.zero_lt_one⟩
  | i+1=>by
    obtain ⟨h1,h2⟩:=prT_mono (m:=m) (s:=s) (next:=next) (t:=t) (x:=x) i
    have h3:=prAll_more (m:=m) (s:=s) (next:=next) (t:=t) (i:=i) (st:=prState (prT m s next t x i) i) (w:=prOff (prT m s next t x i) i) (l:=(prT m s next t x i).list) (r:=0) (j:=0) h2 s.length
    rw [Nat.zero_add] at h3
    exact ⟨h3.1.trans h1,h3.2⟩
theorem prQ_w {m s nx:List (List Int)} {x:Int} (h:(prQ m s nx x).2=false):∃ k:Nat,x=k∧k<m.length∧probB m s=true∧algB m s nx=true∧OffW m s k (offs m s k).1∧PrW m s nx (offs m s k).1 k (prQ m s nx x).1:=by
  unfold prQ at h ⊢
  cases hc:(takesB m s x [] && algB m s nx)
  · rw [hc] at h;cases h
  rw [hc] at h
  simp only [cond_true] at h ⊢
  rw [Bool.and_eq_true] at hc
  obtain ⟨hp,⟨k,rfl,hk⟩,_,_⟩:=takes_ok hc.1
  have ha:=hc.2
  rw [Int.toNat_natCast] at h ⊢
  unfold pr at h ⊢
  cases ho:(offs m s k).2
  · rw [ho] at h
    simp only [cond_false] at h ⊢
    have hw:=offs_w hp hk ho
    obtain ⟨q,h1,h2,h3,h4⟩:=prRun_good 1000 0 h (fun j hj=>by omega) (Nat.zero_le _) (by simp [prT])
    rw [h1]
    have hok:=prT_ok hw.tab hp ha hk q h4
    refine ⟨k,rfl,hk,hp,ha,hw,?_,?_,(prT_mono q).1⟩
    · show PrX m s nx _ (prT m s nx _ k q) (prT m s nx _ k q).list.length
      rw [h2]
      exact prT_x q h4
    · show PrOK m s _ (prT m s nx _ k q) (prT m s nx _ k q).list.length
      rw [h2]
      exact hok
  · rw [ho] at h
    simp at h
/-- the edges along requests -/
def walkE (E:List (List Int)) (K:Nat):Nat→List Int→List (List Int)
  | _,[]=>[]
  | p,r::rs=>E.getD (p*K+r.toNat) []::walkE E K (toE E K p r.toNat) rs
theorem walkE_app {E:List (List Int)} {K:Nat}:∀ (xs ys:List Int) (p:Nat),walkE E K p (xs++ys)=walkE E K p xs++walkE E K (afterE E K p xs) ys
  | [],ys,p=>rfl
  | x::xs,ys,p=>by
    rw [List.cons_append,walkE,walkE,walkE_app xs ys]
    rfl
theorem walk_wk {m s:List (List Int)} {g:PrT} (h:PrFull m s g):∀ (rs:List Int) (p:Nat),p<g.list.length→reqsB s.length rs→Wk (egs g.rows) p (walkE (egs g.rows) s.length p rs) (afterE (egs g.rows) s.length p rs)∧afterE (egs g.rows) s.length p rs<g.list.length
  | [],p,hp,_=>⟨.nil p,hp⟩
  | r::rs,p,hp,hq=>by
    have h0:=hq r (by simp)
    have hr:r.toNat<s.length:=by omega
    obtain ⟨k,a,b,h1,h2,_⟩:=eg_in h hp hr
    have he:=(ed_ok h).at hp hr
    have ht:=(toE_at (ed_ok h) hp hr).2
    obtain ⟨ih,hlt⟩:=walk_wk h rs (toE (egs g.rows) s.length p r.toNat) ht fun v hv=>hq v (by simp [hv])
    refine ⟨?_,hlt⟩
    have hm:(egs g.rows).getD (p*s.length+r.toNat) []∈egs g.rows:=by rw [getD_in he.1];exact List.getElem_mem _
    have e1:efr ((egs g.rows).getD (p*s.length+r.toNat) [])=p:=by rw [h1];rfl
    have hh:=Wk.cons hm (show Wk (egs g.rows) (eto ((egs g.rows).getD (p*s.length+r.toNat) [])) (walkE (egs g.rows) s.length (toE (egs g.rows) s.length p r.toNat) rs) (afterE (egs g.rows) s.length (toE (egs g.rows) s.length p r.toNat) rs) from ih)
    rw [e1] at hh
    exact hh
/-- along requests the costs of edges are the algorithm's, and their growths those of the offsets -/
theorem walk_sums {m s nx:List (List Int)} {x:Nat} {t:OffT} {g:PrT} (ha:algB m s nx=true) (hF:PrFull m s g) (hw:OffW m s x t) (hW:PrW m s nx t x g) (hx:x<m.length) {rs:List Int} (hq:reqsB s.length rs):∀ k,k≤rs.length →
    prState g (afterE (egs g.rows) s.length 0 (rs.take k))=endS nx x (rs.take k)∧prOff g (afterE (egs g.rows) s.length 0 (rs.take k))=offAt t (rs.take k)∧afterE (egs g.rows) s.length 0 (rs.take k)<g.list.length ∧
    sumE cstE (walkE (egs g.rows) s.length 0 (rs.take k))=costS m s nx x (rs.take k)∧sumE grwE (walkE (egs g.rows) s.length 0 (rs.take k))=growS t 0 (rs.take k)
  | 0,_=>by
    refine ⟨?_,?_,hF.pos,rfl,rfl⟩
    · show prState g 0=x
      unfold prState
      rw [hW.fst]
      rfl
    · show prOff g 0=0
      unfold prOff
      rw [hW.fst]
      rfl
  | k+1,hk=>by
    have hk':k<rs.length:=by omega
    obtain ⟨h1,h2,h3,h4,h5⟩:=walk_sums ha hF hw hW hx hq k (by omega)
    obtain ⟨r,hr1,hr2⟩:=hq.at hk'
    obtain ⟨k',q1,q2,q3⟩:=hW.x_.at_ _ _ h3 hr2
    have he:(egs g.rows).getD (afterE (egs g.rows) s.length 0 (rs.take k)*s.length+r) []=_:=(egs_at hF.row _ r (by rw [hF.rlen];exact h3) hr2).trans q1
    have hst:endS nx x (rs.take k)<m.length:=endS_lt ha _ x hx (hq.take k)
    have hal:=alg_at ha hst hr2
    have e1:afterE (egs g.rows) s.length 0 (rs.take (k+1))=k':=by
      rw [after_take hk',hr1,Int.toNat_natCast]
      unfold toE
      rw [he]
      rfl
    have e2:endS nx x (rs.take (k+1))=stepS nx (endS nx x (rs.take k)) r:=by rw [endS_take hk',hr1]
    have e3:walkE (egs g.rows) s.length 0 (rs.take (k+1))=walkE (egs g.rows) s.length 0 (rs.take k)++[(egs g.rows).getD (afterE (egs g.rows) s.length 0 (rs.take k)*s.length+r) []]:=by
      rw [take_getD hk' 0,walkE_app,hr1]
      rfl
    rw [e1,e3,sumE_app,sumE_app,h4,h5,he,h1,h2]
    refine ⟨?_,?_,q2,?_,?_⟩
    · unfold prState
      rw [q3,h1,h2,e2]
      show (nxS nx (endS nx x (rs.take k)) r).toNat=_
      unfold nxS
      rw [hal.eq,Int.toNat_natCast]
    · unfold prOff
      rw [q3,h1,h2]
      show ((t.next.getD (offAt t (rs.take k)) []).getD r 0).toNat=_
      unfold offAt
      rw [take_getD hk' 0,List.foldl_append,hr1]
      rfl
    · rw [costS_take hk',e2,hr1,Int.toNat_natCast]
      simp only [sumE,cstE,List.getD_cons_succ,List.getD_cons_zero]
      unfold costG nxS
      rw [hal.eq,Int.toNat_natCast]
      omega
    · rw [take_getD hk' 0,growS_snoc,hr1]
      simp only [sumE,grwE,List.getD_cons_succ,List.getD_cons_zero]
      show _+(growG t (offAt t (rs.take k)) r+0)=_+(t.grows.getD (offAt t (rs.take k)) []).getD r 0
      unfold growG
      omega
/-- sums along requests from the beginning on -/
theorem walk_all {m s nx:List (List Int)} {x:Nat} {t:OffT} {g:PrT} (hp:probB m s=true) (ha:algB m s nx=true) (hF:PrFull m s g) (hw:OffW m s x t) (hW:PrW m s nx t x g) (hx:x<m.length) {rs:List Int} (hq:reqsB s.length rs) (hl:rs.length≤1000):sumE cstE (walkE (egs g.rows) s.length 0 rs)=costS m s nx x rs∧sumE grwE (walkE (egs g.rows) s.length 0 rs)=optM m s x rs:=by
  obtain ⟨_,_,_,h4,h5⟩:=walk_sums ha hF hw hW hx hq rs.length (Nat.le_refl _)
  rw [List.take_length] at h4 h5
  exact ⟨h4,h5.trans (opt_grow hp hx hw.x_ hw.pos hw.fst hw.tab.gr (least_0 hp hx) hw.el hq hl).symm⟩
/-- a potential bounds the cost along requests -/
theorem pot_bound {m s nx:List (List Int)} {x:Nat} {t:OffT} {g:PrT} (hp:probB m s=true) (ha:algB m s nx=true) (hF:PrFull m s g) (hw:OffW m s x t) (hW:PrW m s nx t x g) (hx:x<m.length) {rs:List Int} (hq:reqsB s.length rs) (hl:rs.length≤1000) {a b:Int} {L:Nat→Int} (hL:PotE (egs g.rows) (wtR a b) L):b*costS m s nx x rs+L (afterE (egs g.rows) s.length 0 rs)≤a*optM m s x rs+L 0:=by
  obtain ⟨h1,h2⟩:=walk_all hp ha hF hw hW hx hq hl
  have h3:=hL.walk (walk_wk hF rs 0 hF.pos hq).1
  rw [sum_wtR,h1,h2] at h3
  omega
end Go.Proofs.YtlhdeofkhajigaaGreat
