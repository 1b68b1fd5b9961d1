/- The steps of a game: the plain law that they are all steps, lead where they should and cost what they should. Conditions: games that are whole. -/
import Derived.Test.YtkcelmnbfbehbaaGreatGCR
import Derived.Test.YtkcelmnbfbehbaaGreatPR
set_option linter.all false
namespace Go.Proofs.YtkcelmnbfbehbaaGreat
def chP (m s:List (List Int)) (t:dF) (L:List (List Int)) (c:List Int):Prop :=
 ∃ i st w r u k:Nat,∃ nx:Int,c=[(i:Int),(k:Int),at2 m st u+at2 s r u,D8 t w r,(r:Int),(u:Int)]/\nx=(t.next.getD w []).getD r 0 /\
  i<L.length/\L.getD i []=[(st:Int),(w:Int)]/\k<L.length/\L.getD k []=[(u:Int),nx]/\st<m.length/\w<t.list.length/\r<s.length/\u<m.length
theorem chP.mono {m s:List (List Int)} {t:dF} {L:List (List Int)} {c:List Int} (h:chP m s t L c) (e:List (List Int)):chP m s t (L++e) c:=by
 obtain ⟨i,st,w,r,u,k,nx,h1,h2,h3,h4,h5,h6,h7⟩:=h
 have g:∀ j,j<L.length->(L++e).getD j []=L.getD j []:=fun j hj=>by simp [List.getElem?_append_left hj]
 exact ⟨i,st,w,r,u,k,nx,h1,h2,by rw [List.length_append];omega,by rw [g i h3,h4],by rw [List.length_append];omega,by rw [g k h5,h6],h7⟩
theorem Jw {α:Type} [DecidableEq α] (l:List α) (x:α):∃ e,kQ l x=l++e:=by
 unfold kQ
 split
 ·exact ⟨[x],rfl⟩
 ·exact ⟨[],by simp⟩
theorem wC (m s:List (List Int)) (t:dF) (i st w r:Nat):∀ (us:List Int) (q:List (List Int)×List (List Int)),∃ e,(us.foldl (eU m s t i st w r) q).1=q.1++e
 | [],q=>⟨[],by simp⟩
 | u::us,q=>by
  obtain ⟨e1,h1⟩:=wC m s t i st w r us (eU m s t i st w r q u)
  obtain ⟨e2,h2⟩:=Jw q.1 (lY t w r u)
  have h3:(eU m s t i st w r q u).1=kQ q.1 (lY t w r u):=rfl
  rw [List.foldl_cons,h1,h3,h2,List.append_assoc]
  exact ⟨e2++e1,rfl⟩
theorem KA {m s:List (List Int)} {t:dF} {i st w r:Nat} (hst:st<m.length) (hw:w<t.list.length) (hr:r<s.length):∀ (us:List Int) (q:List (List Int)×List (List Int)),QT m s r us->i<q.1.length->q.1.getD i []=[(st:Int),(w:Int)]->(∀ c∈q.2,chP m s t q.1 c)->∀ c∈(us.foldl (eU m s t i st w r) q).2,chP m s t (us.foldl (eU m s t i st w r) q).1 c
 | [],q,_,_,_,hq,c,hc=>hq c hc
 | u::us,q,hu,hi,hl,hq,c,hc=>by
  rw [List.foldl_cons] at hc ⊢
  obtain ⟨e,he⟩:=Jw q.1 (lY t w r u)
  have h3:(eU m s t i st w r q u).1=q.1++e:=he
  have hl':(eU m s t i st w r q u).1.getD i []=[(st:Int),(w:Int)]:=by
   rw [h3,← hl]
   simp [List.getElem?_append_left hi]
  refine KA hst hw hr us _ (fun v hv=>hu v (by simp [hv])) (by rw [h3,List.length_append];omega) hl' (fun c' hc' =>?_) c hc
  simp only [eU,List.mem_append,List.mem_singleton] at hc'
  rcases hc' with hc' | rfl
  ·rw [h3]
   exact (hq c' hc').mono e
  ·obtain ⟨y,rfl,hy,-⟩:=hu u (by simp)
   obtain ⟨k,k1,k2,k3⟩:=CP q.1 (lY t w r y) []
   refine ⟨i,st,w,r,y,k,_,?_,rfl,by rw [h3,List.length_append];omega,hl',k2,k3,hst,hw,hr,hy⟩
   unfold chG Ba
   rw [k1,Int.toNat_natCast]
theorem uH (m s:List (List Int)) (t:dF) (i st w:Nat) (l:List (List Int)):∀ r,∃ e,(bn m s t i st w l r).1=l++e
 | 0=>⟨[],by simp [bn]⟩
 | r+1=>by
  obtain ⟨e1,h1⟩:=uH m s t i st w l r
  obtain ⟨e2,h2⟩:=wC m s t i st w r (srv s m.length r) ((bn m s t i st w l r).1,[])
  refine ⟨e1++e2,?_⟩
  show (eF m s t i st w r (bn m s t i st w l r).1 (srv s m.length r)).1=_
  unfold eF
  rw [h2]
  show (bn m s t i st w l r).1++e2=_
  rw [h1,List.append_assoc]
theorem P7 {m s:List (List Int)} {t:dF} {i st w:Nat} (hst:st<m.length) (hw:w<t.list.length) {l:List (List Int)} (hi:i<l.length) (hl:l.getD i []=[(st:Int),(w:Int)]):∀ r,r<=s.length->∀ row∈(bn m s t i st w l r).2,∀ c∈row,chP m s t (bn m s t i st w l r).1 c
 | 0,_=>fun row hrow=>by simp [bn] at hrow
 | r+1,hr=>fun row hrow c hc=>by
  obtain ⟨e1,h1⟩:=uH m s t i st w l r
  obtain ⟨e2,h2⟩:=wC m s t i st w r (srv s m.length r) ((bn m s t i st w l r).1,[])
  have h3:(bn m s t i st w l (r+1)).1=(bn m s t i st w l r).1++e2:=h2
  simp only [bn,List.mem_append,List.mem_singleton] at hrow
  rcases hrow with hrow | rfl
  ·rw [h3]
   exact (P7 hst hw hi hl r (by omega) row hrow c hc).mono e2
  ·refine KA hst hw (by omega) (srv s m.length r) ((bn m s t i st w l r).1,[]) (xC m s r m.length (Nat.le_refl _)) ?_ ?_ (fun c hc=>by simp at hc) c hc
   ·show i<(bn m s t i st w l r).1.length
    rw [h1,List.length_append]
    omega
   ·show (bn m s t i st w l r).1.getD i []=_
    rw [h1,← hl]
    simp [List.getElem?_append_left hi]
theorem Y1 {m s:List (List Int)} {t:dF} (ht:rF s t) {x:Nat} (hx:x<m.length):∀ i,(∀ j,j<i->j<(gmT m s t x j).list.length)->∀ a∈(gmT m s t x i).ch,∀ row∈a,∀ c∈row,chP m s t (gmT m s t x i).list c
 | 0,_=>fun a ha=>by simp [gmT] at ha
 | i+1,hlt=>fun a ha row hrow c hc=>by
  have hok:=wG ht hx i fun j hj=>hlt j (by omega)
  obtain ⟨st,w,h1,h2,h3,h4,h5⟩:=Gu hok (hlt i (by omega))
  obtain ⟨e,he⟩:=uH m s t i st w (gmT m s t x i).list s.length
  simp only [gmT,h2,h3,List.mem_append,List.mem_singleton] at ha
  show chP m s t (gmT m s t x (i+1)).list c
  simp only [gmT,h2,h3]
  rcases ha with ha | rfl
  ·rw [he]
   exact (Y1 ht hx i (fun j hj=>hlt j (by omega)) a ha row hrow c hc).mono e
  ·exact P7 h4 h5 (hlt i (by omega)) h1 s.length (Nat.le_refl _) row hrow c hc
end Go.Proofs.YtkcelmnbfbehbaaGreat
namespace Go.Proofs.YtkcelmnbfbehbaaGreat
open Go Go.RowKit Am
end Go.Proofs.YtkcelmnbfbehbaaGreat
