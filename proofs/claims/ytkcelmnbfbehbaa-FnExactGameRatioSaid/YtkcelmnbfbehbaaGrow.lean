/- The least costs by the growths: the plain laws of offsets. Conditions: problems that are right. -/
import Derived.Test.YtkcelmnbfbehbaaGWO
set_option linter.all false
set_option linter.unusedSimpArgs false
set_option linter.unusedVariables false
namespace Go.Proofs.Ytkcelmnbfbehbaa

theorem offL_more {m s:List (List Int)} {w:List Int} {l:List (List Int)} {r:Nat} {i:Nat} (h:i<(offL m s w l r).length):∀ d,(offL m s w l (r+d)).getD i []=(offL m s w l r).getD i []∧i<(offL m s w l (r+d)).length
  | 0=>⟨rfl,h⟩
  | d+1=>by
    obtain ⟨h1,h2⟩:=offL_more h d
    have h3:=addT_get (x:=offW m s w (r+d)) (d:=[]) h2
    have h4:=(addT_len (offL m s w l (r+d)) (offW m s w (r+d))).1
    exact ⟨h3.trans h1,by show i<(addT (offL m s w l (r+d)) (offW m s w (r+d))).length;omega⟩
/-- where the table says that an offset goes, there the offset's next lies -/
theorem offN_ok {m s:List (List Int)} {w:List Int} {l:List (List Int)} {n r:Nat} (hr:r<n):∃ k:Nat,(offN m s w l n).getD r 0=k∧k<(offL m s w l n).length∧(offL m s w l n).getD k []=offW m s w r:=by
  obtain ⟨k,h1,h2,h3⟩:=posT_ok (offL m s w l r) (offW m s w r) []
  have h4:=offL_more (m:=m) (s:=s) (w:=w) (l:=l) (r:=r+1) (i:=k) h2 (n-(r+1))
  rw [show r+1+(n-(r+1))=n by omega] at h4
  refine ⟨k,?_,h4.2,h4.1.trans h3⟩
  rw [← h1]
  simp [offN,hr]
theorem offGs_at {m s:List (List Int)} {w:List Int} {n r:Nat} (hr:r<n):(offGs m s w n).getD r 0=offG m s w r:=by simp [offGs,hr]
/-- what an offset table says, at every request, of the offsets that it has gone through -/
structure OffX (m s:List (List Int)) (t:OffT) (i:Nat):Prop where
  nlen:t.next.length=i
  glen:t.grows.length=i
  at_:∀ j r,j<i→r<s.length→∃ k:Nat,(t.next.getD j []).getD r 0=k∧k<t.list.length∧t.list.getD k []=offW m s (t.list.getD j []) r∧(t.grows.getD j []).getD r 0=offG m s (t.list.getD j []) r
theorem offT_x {m s:List (List Int)} {x:Nat}:∀ i,(∀ j,j<i→j<(offT m s x j).list.length)→OffX m s (offT m s x i) i
  | 0,_=>⟨rfl,rfl,fun j r hj=>by omega⟩
  | i+1,h=>by
    have ih:=offT_x i fun j hj=>h j (by omega)
    have hi:=h i (by omega)
    generalize ht:offT m s x i=t at ih hi
    have hget:∀ k,k<t.list.length→(offL m s (t.list.getD i []) t.list s.length).getD k []=t.list.getD k []:=fun k hk=>offL_get hk s.length
    have hle:=(offL_len m s (t.list.getD i []) t.list s.length).1
    have e:offT m s x (i+1)=⟨offL m s (t.list.getD i []) t.list s.length,t.next++[offN m s (t.list.getD i []) t.list s.length],t.grows++[offGs m s (t.list.getD i []) s.length]⟩:=by rw [← ht];rfl
    rw [e]
    refine ⟨by simp [ih.nlen],by simp [ih.glen],fun j r hj hr => ?_⟩
    by_cases hji:j<i
    · obtain ⟨k,h1,h2,h3,h4⟩:=ih.at_ j r hji hr
      refine ⟨k,?_,?_,?_,?_⟩
      · show ((t.next++[_]).getD j []).getD r 0=_
        rw [getD_app (by rw [ih.nlen];exact hji)]
        exact h1
      · show k<(offL m s (t.list.getD i []) t.list s.length).length
        omega
      · show (offL m s (t.list.getD i []) t.list s.length).getD k []=offW m s ((offL m s (t.list.getD i []) t.list s.length).getD j []) r
        rw [hget k h2,hget j (by omega)]
        exact h3
      · show ((t.grows++[_]).getD j []).getD r 0=offG m s ((offL m s (t.list.getD i []) t.list s.length).getD j []) r
        rw [getD_app (by rw [ih.glen];exact hji),hget j (by omega)]
        exact h4
    · obtain rfl:j=i:=by omega
      obtain ⟨k,h1,h2,h3⟩:=offN_ok (m:=m) (s:=s) (w:=t.list.getD j []) (l:=t.list) hr
      refine ⟨k,?_,h2,?_,?_⟩
      · show ((t.next++[_]).getD j []).getD r 0=_
        rw [getD_last ih.nlen.symm]
        exact h1
      · show (offL m s (t.list.getD j []) t.list s.length).getD k []=offW m s ((offL m s (t.list.getD j []) t.list s.length).getD j []) r
        rw [hget j hi]
        exact h3
      · show ((t.grows++[_]).getD j []).getD r 0=offG m s ((offL m s (t.list.getD j []) t.list s.length).getD j []) r
        rw [getD_last ih.glen.symm,hget j hi]
        exact offGs_at hr
theorem nextM_at {m s:List (List Int)} {w:List Int} {r x:Nat} (hx:x<m.length):(nextM m s w r).getD x 0=wAt m s w r x:=by
  unfold nextM
  rw [rangeMap_getD _ _ hx]
theorem offW_at {m s:List (List Int)} {w:List Int} {r x:Nat} (hx:x<m.length):(offW m s w r).getD x 0=wAt m s w r x-offG m s w r:=by
  unfold offW
  rw [lessM_at (by rw [nextM_len];exact hx),nextM_at hx]
end Go.Proofs.Ytkcelmnbfbehbaa
