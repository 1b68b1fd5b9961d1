/- The steps of a game: the plain law that they are all steps, lead where they should and cost what they should. Conditions: games that are whole. -/
import Derived.Test.YtkcelmnbfbehbaaGSC
import Derived.Test.YtkcelmnbfbehbaaGCR
set_option linter.all false
set_option linter.unusedSimpArgs false
set_option linter.unusedVariables false
namespace Go.Proofs.Ytkcelmnbfbehbaa

/-- a choice that is right, in a list of positions -/
def chP (m s:List (List Int)) (t:OffT) (L:List (List Int)) (c:List Int):Prop :=
  ∃ i st w r u k:Nat,∃ nx:Int,c=[(i:Int),(k:Int),at2 m st u+at2 s r u,growG t w r,(r:Int),(u:Int)]∧nx=(t.next.getD w []).getD r 0 ∧
    i<L.length∧L.getD i []=[(st:Int),(w:Int)]∧k<L.length∧L.getD k []=[(u:Int),nx]∧st<m.length∧w<t.list.length∧r<s.length∧u<m.length
theorem chP.mono {m s:List (List Int)} {t:OffT} {L:List (List Int)} {c:List Int} (h:chP m s t L c) (e:List (List Int)):chP m s t (L++e) c:=by
  obtain ⟨i,st,w,r,u,k,nx,h1,h2,h3,h4,h5,h6,h7⟩:=h
  have g:∀ j,j<L.length→(L++e).getD j []=L.getD j []:=fun j hj=>by simp [List.getElem?_append_left hj]
  exact ⟨i,st,w,r,u,k,nx,h1,h2,by rw [List.length_append];omega,by rw [g i h3,h4],by rw [List.length_append];omega,by rw [g k h5,h6],h7⟩
theorem addT_ext {α:Type} [DecidableEq α] (l:List α) (x:α):∃ e,addT l x=l++e:=by
  unfold addT
  split
  · exact ⟨[x],rfl⟩
  · exact ⟨[],by simp⟩
theorem gmFold_ext (m s:List (List Int)) (t:OffT) (i st w r:Nat):∀ (us:List Int) (q:List (List Int)×List (List Int)),∃ e,(us.foldl (gmStep m s t i st w r) q).1=q.1++e
  | [],q=>⟨[],by simp⟩
  | u::us,q=>by
    obtain ⟨e1,h1⟩:=gmFold_ext m s t i st w r us (gmStep m s t i st w r q u)
    obtain ⟨e2,h2⟩:=addT_ext q.1 (keyG t w r u)
    have h3:(gmStep m s t i st w r q u).1=addT q.1 (keyG t w r u):=rfl
    rw [List.foldl_cons,h1,h3,h2,List.append_assoc]
    exact ⟨e2++e1,rfl⟩
theorem gmFold_P {m s:List (List Int)} {t:OffT} {i st w r:Nat} (hst:st<m.length) (hw:w<t.list.length) (hr:r<s.length):∀ (us:List Int) (q:List (List Int)×List (List Int)),srvOK m s r us→i<q.1.length→q.1.getD i []=[(st:Int),(w:Int)]→(∀ c∈q.2,chP m s t q.1 c)→∀ c∈(us.foldl (gmStep m s t i st w r) q).2,chP m s t (us.foldl (gmStep m s t i st w r) q).1 c
  | [],q,_,_,_,hq,c,hc=>hq c hc
  | u::us,q,hu,hi,hl,hq,c,hc=>by
    rw [List.foldl_cons] at hc ⊢
    obtain ⟨e,he⟩:=addT_ext q.1 (keyG t w r u)
    have h3:(gmStep m s t i st w r q u).1=q.1++e:=he
    have hl':(gmStep m s t i st w r q u).1.getD i []=[(st:Int),(w:Int)]:=by
      rw [h3,← hl]
      simp [List.getElem?_append_left hi]
    refine gmFold_P hst hw hr us _ (fun v hv=>hu v (by simp [hv])) (by rw [h3,List.length_append];omega) hl' (fun c' hc' => ?_) c hc
    simp only [gmStep,List.mem_append,List.mem_singleton] at hc'
    rcases hc' with hc' | rfl
    · rw [h3]
      exact (hq c' hc').mono e
    · obtain ⟨y,rfl,hy,-⟩:=hu u (by simp)
      obtain ⟨k,k1,k2,k3⟩:=posT_ok q.1 (keyG t w r y) []
      refine ⟨i,st,w,r,y,k,_,?_,rfl,by rw [h3,List.length_append];omega,hl',k2,k3,hst,hw,hr,hy⟩
      unfold chG costG
      rw [k1,Int.toNat_natCast]
theorem gmAll_ext (m s:List (List Int)) (t:OffT) (i st w:Nat) (l:List (List Int)):∀ r,∃ e,(gmAll m s t i st w l r).1=l++e
  | 0=>⟨[],by simp [gmAll]⟩
  | r+1=>by
    obtain ⟨e1,h1⟩:=gmAll_ext m s t i st w l r
    obtain ⟨e2,h2⟩:=gmFold_ext m s t i st w r (srv s m.length r) ((gmAll m s t i st w l r).1,[])
    refine ⟨e1++e2,?_⟩
    show (gmRow m s t i st w r (gmAll m s t i st w l r).1 (srv s m.length r)).1=_
    unfold gmRow
    rw [h2]
    show (gmAll m s t i st w l r).1++e2=_
    rw [h1,List.append_assoc]
theorem gmAll_P {m s:List (List Int)} {t:OffT} {i st w:Nat} (hst:st<m.length) (hw:w<t.list.length) {l:List (List Int)} (hi:i<l.length) (hl:l.getD i []=[(st:Int),(w:Int)]):∀ r,r≤s.length→∀ row∈(gmAll m s t i st w l r).2,∀ c∈row,chP m s t (gmAll m s t i st w l r).1 c
  | 0,_=>fun row hrow=>by simp [gmAll] at hrow
  | r+1,hr=>fun row hrow c hc=>by
    obtain ⟨e1,h1⟩:=gmAll_ext m s t i st w l r
    obtain ⟨e2,h2⟩:=gmFold_ext m s t i st w r (srv s m.length r) ((gmAll m s t i st w l r).1,[])
    have h3:(gmAll m s t i st w l (r+1)).1=(gmAll m s t i st w l r).1++e2:=h2
    simp only [gmAll,List.mem_append,List.mem_singleton] at hrow
    rcases hrow with hrow | rfl
    · rw [h3]
      exact (gmAll_P hst hw hi hl r (by omega) row hrow c hc).mono e2
    · refine gmFold_P hst hw (by omega) (srv s m.length r) ((gmAll m s t i st w l r).1,[]) (srv_ok m s r m.length (Nat.le_refl _)) ?_ ?_ (fun c hc=>by simp at hc) c hc
      · show i<(gmAll m s t i st w l r).1.length
        rw [h1,List.length_append]
        omega
      · show (gmAll m s t i st w l r).1.getD i []=_
        rw [h1,← hl]
        simp [List.getElem?_append_left hi]
theorem gmT_P {m s:List (List Int)} {t:OffT} (ht:TabOK s t) {x:Nat} (hx:x<m.length):∀ i,(∀ j,j<i→j<(gmT m s t x j).list.length)→∀ a∈(gmT m s t x i).ch,∀ row∈a,∀ c∈row,chP m s t (gmT m s t x i).list c
  | 0,_=>fun a ha=>by simp [gmT] at ha
  | i+1,hlt=>fun a ha row hrow c hc=>by
    have hok:=gmT_ok ht hx i fun j hj=>hlt j (by omega)
    obtain ⟨st,w,h1,h2,h3,h4,h5⟩:=gm_at hok (hlt i (by omega))
    obtain ⟨e,he⟩:=gmAll_ext m s t i st w (gmT m s t x i).list s.length
    simp only [gmT,h2,h3,List.mem_append,List.mem_singleton] at ha
    show chP m s t (gmT m s t x (i+1)).list c
    simp only [gmT,h2,h3]
    rcases ha with ha | rfl
    · rw [he]
      exact (gmT_P ht hx i (fun j hj=>hlt j (by omega)) a ha row hrow c hc).mono e
    · exact gmAll_P h4 h5 (hlt i (by omega)) h1 s.length (Nat.le_refl _) row hrow c hc
end Go.Proofs.Ytkcelmnbfbehbaa
