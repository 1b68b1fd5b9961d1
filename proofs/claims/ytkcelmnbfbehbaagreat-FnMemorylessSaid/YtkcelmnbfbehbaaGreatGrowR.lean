/- Costs and growths along requests, in a graph of pairs: the sums are the algorithm's cost and the least cost. The plain laws. Conditions: problems, algorithms and sequences that are right. -/
import Derived.Test.YtkcelmnbfbehbaaGreatGED
set_option linter.all false
namespace Go.Proofs.YtkcelmnbfbehbaaGreat
open Am
theorem Gh {m s:List (List Int)} {x:Nat}:∀ i,(aP m s x i).list.getD 0 []=m.getD x []/\0<(aP m s x i).list.length
 | 0=>⟨rfl,Nat.zero_lt_one⟩
 | i+1=>by
  obtain ⟨h1,h2⟩:=Gh (m:=m) (s:=s) (x:=x) i
  have h3:=lH m s ((aP m s x i).list.getD i []) (aP m s x i).list s.length
  exact ⟨(tu h2 s.length).trans h1,Nat.lt_of_lt_of_le h2 h3.1⟩
structure ac9 (m s:List (List Int)) (x:Nat) (t:bW):Prop where
 x_:ZE m s t t.list.length
 pos:0<t.list.length
 fst:t.list.getD 0 []=m.getD x []
 tab:ng s t
 el:∀ v∈t.list,kW m v 99
theorem aah {m s:List (List Int)} {x:Nat} (hp:aO m s=true) (hx:x<m.length) (h:(gV m s x).2=false):ac9 m s x (gV m s x).1:=by
 have htab:=uf hp hx h
 unfold gV at h htab ⊢
 obtain ⟨k,h1,h2,h3,h4⟩:=oP 500 0 h fun j hj=>by omega
 rw [h1] at htab ⊢
 have hle:k<=(aP m s x k).list.length:=by
  cases k with
  | zero=>omega
  | succ k =>
   have h5:=h4 k (by omega)
   have h6:=(lH m s ((aP m s x k).list.getD k []) (aP m s x k).list s.length).1
   show k+1<=(bU m s ((aP m s x k).list.getD k []) (aP m s x k).list s.length).length
   omega
 have hlen:(aP m s x k).list.length=k:=by omega
 have hX:=NU (m:=m) (s:=s) (x:=x) k h4
 obtain ⟨h7,h8⟩:=Gh (m:=m) (s:=s) (x:=x) k
 refine ⟨?_,h8,h7,htab,wJ hp hx k⟩
 show ZE m s (aP m s x k) (aP m s x k).list.length
 rw [hlen]
 exact hX
structure PrW (m s next:List (List Int)) (t:bW) (x:Nat) (g:PrT):Prop where
 x_:PrX m s next t g g.list.length
 ok:Sz m s t g g.list.length
 fst:g.list.getD 0 []=[(x:Int),0]
theorem Lc {m s next:List (List Int)} {t:bW} {x:Nat}:∀ i,(prT m s next t x i).list.getD 0 []=[(x:Int),0]/\0<(prT m s next t x i).list.length
 | 0=>⟨rfl,Nat.zero_lt_one⟩
 | i+1=>by
  obtain ⟨h1,h2⟩:=Lc (m:=m) (s:=s) (next:=next) (t:=t) (x:=x) i
  have h3:=qV (m:=m) (s:=s) (next:=next) (t:=t) (i:=i) (st:=fM (prT m s next t x i) i) (w:=jM (prT m s next t x i) i) (l:=(prT m s next t x i).list) (r:=0) (j:=0) h2 s.length
  rw [Nat.zero_add] at h3
  exact ⟨h3.1.trans h1,h3.2⟩
theorem adE {m s nx:List (List Int)} {x:Int} (h:(prQ m s nx x).2=false):∃ k:Nat,x=k/\k<m.length/\aO m s=true/\pY m s nx=true/\ac9 m s k (gV m s k).1/\PrW m s nx (gV m s k).1 k (prQ m s nx x).1:=by
 unfold prQ at h ⊢
 cases hc:(bn m s x [] && pY m s nx)
 ·rw [hc] at h;cases h
 rw [hc] at h
 simp only [cond_true] at h ⊢
 rw [Bool.and_eq_true] at hc
 obtain ⟨hp,⟨k,rfl,hk⟩,_,_⟩:=iK hc.1
 have ha:=hc.2
 rw [Int.toNat_natCast] at h ⊢
 unfold pr at h ⊢
 cases ho:(gV m s k).2
 ·rw [ho] at h
  simp only [cond_false] at h ⊢
  have hw:=aah hp hk ho
  obtain ⟨q,h1,h2,h3,h4⟩:=wM 1000 0 h (fun j hj=>by omega) (Nat.zero_le _) (by simp [prT])
  rw [h1]
  have hok:=DZ hw.tab hp ha hk q h4
  refine ⟨k,rfl,hk,hp,ha,hw,?_,?_,(Lc q).1⟩
  ·show PrX m s nx _ (prT m s nx _ k q) (prT m s nx _ k q).list.length
   rw [h2]
   exact Zp q h4
  ·show Sz m s _ (prT m s nx _ k q) (prT m s nx _ k q).list.length
   rw [h2]
   exact hok
 ·rw [ho] at h
  simp at h
end Go.Proofs.YtkcelmnbfbehbaaGreat
