/- The steps of a game: the plain law that they are all steps, lead where they should and cost what they should. Conditions: games that are whole. -/
import Derived.Test.YtkcelmnbfbehbaaGreatGCR
import Derived.Test.YtkcelmnbfbehbaaGreatPR
import Derived.Test.YtkcelmnbfbehbaaGreatGrow
set_option linter.all false
namespace Go.Proofs.YtkcelmnbfbehbaaGreat
def chP (m s:List (List Int)) (t:bW) (L:List (List Int)) (c:List Int):Prop :=
 ∃ i st w r u k:Nat,∃ nx:Int,c=[(i:Int),(k:Int),at2 m st u+at2 s r u,lu t w r,(r:Int),(u:Int)]/\nx=(t.next.getD w []).getD r 0 /\
  i<L.length/\L.getD i []=[(st:Int),(w:Int)]/\k<L.length/\L.getD k []=[(u:Int),nx]/\st<m.length/\w<t.list.length/\r<s.length/\u<m.length
theorem chP.mono {m s:List (List Int)} {t:bW} {L:List (List Int)} {c:List Int} (h:chP m s t L c) (e:List (List Int)):chP m s t (L++e) c:=by
 obtain ⟨i,st,w,r,u,k,nx,h1,h2,h3,h4,h5,h6,h7⟩:=h
 have g:∀ j,j<L.length->(L++e).getD j []=L.getD j []:=fun j hj=>by simp [List.getElem?_append_left hj]
 exact ⟨i,st,w,r,u,k,nx,h1,h2,by rw [List.length_append];omega,by rw [g i h3,h4],by rw [List.length_append];omega,by rw [g k h5,h6],h7⟩
theorem Ja {α:Type} [DecidableEq α] (l:List α) (x:α):∃ e,jP l x=l++e:=by
 unfold jP
 split
 ·exact ⟨[x],rfl⟩
 ·exact ⟨[],by simp⟩
theorem wu (m s:List (List Int)) (t:bW) (i st w r:Nat):∀ (us:List Int) (q:List (List Int)×List (List Int)),∃ e,(us.foldl (eP m s t i st w r) q).1=q.1++e
 | [],q=>⟨[],by simp⟩
 | u::us,q=>by
  obtain ⟨e1,h1⟩:=wu m s t i st w r us (eP m s t i st w r q u)
  obtain ⟨e2,h2⟩:=Ja q.1 (fO t w r u)
  have h3:(eP m s t i st w r q u).1=jP q.1 (fO t w r u):=rfl
  rw [List.foldl_cons,h1,h3,h2,List.append_assoc]
  exact ⟨e2++e1,rfl⟩
theorem J3 {m s:List (List Int)} {t:bW} {i st w r:Nat} (hst:st<m.length) (hw:w<t.list.length) (hr:r<s.length):∀ (us:List Int) (q:List (List Int)×List (List Int)),Qs m s r us->i<q.1.length->q.1.getD i []=[(st:Int),(w:Int)]->(∀ c∈q.2,chP m s t q.1 c)->∀ c∈(us.foldl (eP m s t i st w r) q).2,chP m s t (us.foldl (eP m s t i st w r) q).1 c
 | [],q,_,_,_,hq,c,hc=>hq c hc
 | u::us,q,hu,hi,hl,hq,c,hc=>by
  rw [List.foldl_cons] at hc ⊢
  obtain ⟨e,he⟩:=Ja q.1 (fO t w r u)
  have h3:(eP m s t i st w r q u).1=q.1++e:=he
  have hl':(eP m s t i st w r q u).1.getD i []=[(st:Int),(w:Int)]:=by
   rw [h3,← hl]
   simp [List.getElem?_append_left hi]
  refine J3 hst hw hr us _ (fun v hv=>hu v (by simp [hv])) (by rw [h3,List.length_append];omega) hl' (fun c' hc' =>?_) c hc
  simp only [eP,List.mem_append,List.mem_singleton] at hc'
  rcases hc' with hc' | rfl
  ·rw [h3]
   exact (hq c' hc').mono e
  ·obtain ⟨y,rfl,hy,-⟩:=hu u (by simp)
   obtain ⟨k,k1,k2,k3⟩:=uM q.1 (fO t w r y) []
   refine ⟨i,st,w,r,y,k,_,?_,rfl,by rw [h3,List.length_append];omega,hl',k2,k3,hst,hw,hr,hy⟩
   unfold chG jg
   rw [k1,Int.toNat_natCast]
theorem um (m s:List (List Int)) (t:bW) (i st w:Nat) (l:List (List Int)):∀ r,∃ e,(bf m s t i st w l r).1=l++e
 | 0=>⟨[],by simp [bf]⟩
 | r+1=>by
  obtain ⟨e1,h1⟩:=um m s t i st w l r
  obtain ⟨e2,h2⟩:=wu m s t i st w r (srv s m.length r) ((bf m s t i st w l r).1,[])
  refine ⟨e1++e2,?_⟩
  show (dV m s t i st w r (bf m s t i st w l r).1 (srv s m.length r)).1=_
  unfold dV
  rw [h2]
  show (bf m s t i st w l r).1++e2=_
  rw [h1,List.append_assoc]
theorem Py {m s:List (List Int)} {t:bW} {i st w:Nat} (hst:st<m.length) (hw:w<t.list.length) {l:List (List Int)} (hi:i<l.length) (hl:l.getD i []=[(st:Int),(w:Int)]):∀ r,r<=s.length->∀ row∈(bf m s t i st w l r).2,∀ c∈row,chP m s t (bf m s t i st w l r).1 c
 | 0,_=>fun row hrow=>by simp [bf] at hrow
 | r+1,hr=>fun row hrow c hc=>by
  obtain ⟨e1,h1⟩:=um m s t i st w l r
  obtain ⟨e2,h2⟩:=wu m s t i st w r (srv s m.length r) ((bf m s t i st w l r).1,[])
  have h3:(bf m s t i st w l (r+1)).1=(bf m s t i st w l r).1++e2:=h2
  simp only [bf,List.mem_append,List.mem_singleton] at hrow
  rcases hrow with hrow | rfl
  ·rw [h3]
   exact (Py hst hw hi hl r (by omega) row hrow c hc).mono e2
  ·refine J3 hst hw (by omega) (srv s m.length r) ((bf m s t i st w l r).1,[]) (wV m s r m.length (Nat.le_refl _)) ?_ ?_ (fun c hc=>by simp at hc) c hc
   ·show i<(bf m s t i st w l r).1.length
    rw [h1,List.length_append]
    omega
   ·show (bf m s t i st w l r).1.getD i []=_
    rw [h1,← hl]
    simp [List.getElem?_append_left hi]
theorem Zf {m s:List (List Int)} {t:bW} (ht:ng s t) {x:Nat} (hx:x<m.length):∀ i,(∀ j,j<i->j<(gmT m s t x j).list.length)->∀ a∈(gmT m s t x i).ch,∀ row∈a,∀ c∈row,chP m s t (gmT m s t x i).list c
 | 0,_=>fun a ha=>by simp [gmT] at ha
 | i+1,hlt=>fun a ha row hrow c hc=>by
  have hok:=wC ht hx i fun j hj=>hlt j (by omega)
  obtain ⟨st,w,h1,h2,h3,h4,h5⟩:=FK hok (hlt i (by omega))
  obtain ⟨e,he⟩:=um m s t i st w (gmT m s t x i).list s.length
  simp only [gmT,h2,h3,List.mem_append,List.mem_singleton] at ha
  show chP m s t (gmT m s t x (i+1)).list c
  simp only [gmT,h2,h3]
  rcases ha with ha | rfl
  ·rw [he]
   exact (Zf ht hx i (fun j hj=>hlt j (by omega)) a ha row hrow c hc).mono e
  ·exact Py h4 h5 (hlt i (by omega)) h1 s.length (Nat.le_refl _) row hrow c hc
theorem N8 (m s next:List (List Int)) (t:bW) (i st w:Nat) (l:List (List Int)) (r:Nat):(aS m s next t i st w l r).2.length=r:=(mY m s next t i st w l r).2.2
theorem qV {m s next:List (List Int)} {t:bW} {i st w:Nat} {l:List (List Int)} {r j:Nat} (h:j<(aS m s next t i st w l r).1.length):∀ d,(aS m s next t i st w l (r+d)).1.getD j []=(aS m s next t i st w l r).1.getD j []/\j<(aS m s next t i st w l (r+d)).1.length
 | 0=>⟨rfl,h⟩
 | d+1=>by
  obtain ⟨h1,h2⟩:=qV h d
  have h3:=BJ (x:=fO t w (r+d) (nxS next st (r+d))) (d:=[]) h2
  have h4:=(ni (aS m s next t i st w l (r+d)).1 (fO t w (r+d) (nxS next st (r+d)))).1
  exact ⟨h3.trans h1,Nat.lt_of_lt_of_le h2 h4⟩
theorem Gs {m s next:List (List Int)} {t:bW} {i st w:Nat} {l:List (List Int)} {r:Nat}:∀ n,r<n->(aS m s next t i st w l n).2.getD r []=egG m s next t i st w (aS m s next t i st w l r).1 r
 | 0,h=>by omega
 | n+1,h=>by
  have hl:=N8 m s next t i st w l n
  show ((aS m s next t i st w l n).2++[_]).getD r []=_
  by_cases hr:r<n
  ·rw [fG (by omega)]
   exact Gs n hr
  ·obtain rfl:r=n:=by omega
   rw [fJ hl.symm]
theorem Wj {m s next:List (List Int)} {t:bW} {i st w:Nat} {l:List (List Int)} {n r:Nat} (hr:r<n):∃ k:Nat,(aS m s next t i st w l n).2.getD r []=[(i:Int),(k:Int),jg m s st r (nxS next st r),lu t w r]/\k<(aS m s next t i st w l n).1.length/\(aS m s next t i st w l n).1.getD k []=fO t w r (nxS next st r):=by
 obtain ⟨k,h1,h2,h3⟩:=uM (aS m s next t i st w l r).1 (fO t w r (nxS next st r)) []
 have h4:=qV (m:=m) (s:=s) (next:=next) (t:=t) (i:=i) (st:=st) (w:=w) (l:=l) (r:=r+1) (j:=k) h2 (n-(r+1))
 rw [show r+1+(n-(r+1))=n by omega] at h4
 refine ⟨k,?_,h4.2,h4.1.trans h3⟩
 rw [Gs n hr,← h1]
 rfl
structure PrX (m s next:List (List Int)) (t:bW) (g:PrT) (i:Nat):Prop where
 rlen:g.rows.length=i
 at_:∀ j r,j<i->r<s.length->∃ k:Nat,(g.rows.getD j []).getD r []=[(j:Int),(k:Int),jg m s (fM g j) r (nxS next (fM g j) r),lu t (jM g j) r]/\k<g.list.length/\g.list.getD k []=fO t (jM g j) r (nxS next (fM g j) r)
theorem Zp {m s next:List (List Int)} {t:bW} {x:Nat}:∀ i,(∀ j,j<i->j<(prT m s next t x j).list.length)->PrX m s next t (prT m s next t x i) i
 | 0,_=>⟨rfl,fun j r hj=>by omega⟩
 | i+1,h=>by
  have ih:=Zp i fun j hj=>h j (by omega)
  have hi:=h i (by omega)
  generalize hg:prT m s next t x i=g at ih hi
  obtain ⟨l',hl'⟩:∃ l',l'=(aS m s next t i (fM g i) (jM g i) g.list s.length).1:=⟨_,rfl⟩
  have e:prT m s next t x (i+1)=⟨l',g.rows++[(aS m s next t i (fM g i) (jM g i) g.list s.length).2]⟩:=by rw [hl',← hg];rfl
  have hget:∀ k,k<g.list.length->l'.getD k []=g.list.getD k []/\k<l'.length:=fun k hk=>by
   have:=qV (m:=m) (s:=s) (next:=next) (t:=t) (i:=i) (st:=fM g i) (w:=jM g i) (l:=g.list) (r:=0) (j:=k) hk s.length
   rw [Nat.zero_add] at this
   rw [hl']
   exact this
  rw [e]
  have hst:∀ j,j<=i->fM ⟨l',g.rows++[(aS m s next t i (fM g i) (jM g i) g.list s.length).2]⟩ j=fM g j/\jM ⟨l',g.rows++[(aS m s next t i (fM g i) (jM g i) g.list s.length).2]⟩ j=jM g j:=fun j hj=>by
   unfold fM jM
   simp only
   rw [(hget j (by omega)).1]
   exact ⟨rfl,rfl⟩
  refine ⟨by simp [ih.rlen],fun j r hj hr =>?_⟩
  rw [(hst j (by omega)).1,(hst j (by omega)).2]
  by_cases hji:j<i
  ·obtain ⟨k,h1,h2,h3⟩:=ih.at_ j r hji hr
   refine ⟨k,?_,(hget k h2).2,(hget k h2).1.trans h3⟩
   show ((g.rows++[_]).getD j []).getD r []=_
   rw [fG (by rw [ih.rlen];exact hji)]
   exact h1
  ·obtain rfl:j=i:=by omega
   obtain ⟨k,h1,h2,h3⟩:=Wj (m:=m) (s:=s) (next:=next) (t:=t) (i:=j) (st:=fM g j) (w:=jM g j) (l:=g.list) hr
   refine ⟨k,?_,by rw [hl'];exact h2,by rw [hl'];exact h3⟩
   show ((g.rows++[_]).getD j []).getD r []=_
   rw [fJ ih.rlen.symm]
   exact h1
end Go.Proofs.YtkcelmnbfbehbaaGreat
namespace Go.Proofs.YtkcelmnbfbehbaaGreat
open Go Go.RowKit Am
abbrev grA (g:PrT):AV := .tv (.agg [.b (.sl (.k 2 g.list)),.b (.sl (.ki 3 (eg3 g.rows))),.b (.val (.bool false))])
theorem Vb (c:List Int) (a:Int×Int) (h1:0<=a.2*c.getD 2 0) (h2:a.2*c.getD 2 0<=1000000000000000) (h3:0<=a.1*c.getD 3 0) (h4:a.1*c.getD 3 0<=1000000000000000):Does Tryz.prog 167 [frA a,.tv (.agg [.b (.val (.int .i64 ((c3 c).getD 0 0))),.b (.val (.int .i64 ((c3 c).getD 1 0))),.b (.val (.int .i64 ((c3 c).getD 2 0)))])] (.imm (.int (eX a.1 a.2 c))):=by
 have e1:(c3 c).getD 1 0=c.getD 2 0:=rfl
 have e2:(c3 c).getD 2 0=c.getD 3 0:=rfl
 rw [← e1] at h1 h2
 rw [← e2] at h3 h4
 refine aC Tryz.func167 rfl Tryz.ntmps167 aX (fun _ _=>by kernel_rfl) rfl (Nat.le_of_ble_eq_true rfl) ?_
 intro M0 w0
 rw [Tryz.results167]
 refine ah ?_
 refine bV ?_
 rfl
theorem CJ {c:Nat}:∀ {rows:List (List (List Int))},(∀ j,j<rows.length->(rows.getD j []).length=c)->∀ p r,p<rows.length->r<c->(egs rows).getD (p*c+r) []=(rows.getD p []).getD r []
 | [],_,p,r,hp,_=>by simp at hp
 | row::rows,h,0,r,_,hr=>by
  have h1:row.length=c:=h 0 (by simp)
  show (row++rows.flatten).getD (0*c+r) []=row.getD r []
  rw [Nat.zero_mul,Nat.zero_add,List.getD_eq_getElem?_getD,List.getD_eq_getElem?_getD,List.getElem?_append_left (by omega)]
 | row::rows,h,p+1,r,hp,hr=>by
  have h1:row.length=c:=h 0 (by simp)
  have ih:=CJ (rows:=rows) (c:=c) (fun j hj=>by have:=h (j+1) (by simpa using hj);simpa using this) p r (by simpa using hp) hr
  show (row++rows.flatten).getD ((p+1)*c+r) []=(rows.getD p []).getD r []
  rw [List.getD_eq_getElem?_getD,List.getElem?_append_right (by rw [Nat.succ_mul];omega),← List.getD_eq_getElem?_getD,show (p+1)*c+r-row.length=p*c+r by rw [Nat.succ_mul];omega]
  exact ih
abbrev JJ (c:List Int):AV := .tv (.agg [.b (.val (.int .i64 (c.getD 0 0))),.b (.val (.int .i64 (c.getD 1 0))),.b (.val (.int .i64 (c.getD 2 0))),.b (.val (.int .i64 (c.getD 3 0)))])
abbrev prX (L E:List (List Int)) (K:Nat):AV := .lf (.ip [.sl (.k 2 L),.sl (.k 4 E),.val (.int .i64 K)] 0)
structure ae7 (E:List (List Int)) (K N:Nat):Prop where
 len:E.length=N*K
 n:N<=1000
 k:1<=K/\K<=10
 to:∀ c∈E,0<=c.getD 1 0/\c.getD 1 0<(N:Int)
def toE (E:List (List Int)) (K p r:Nat):Nat:=((E.getD (p*K+r) []).getD 1 0).toNat
end Go.Proofs.YtkcelmnbfbehbaaGreat
