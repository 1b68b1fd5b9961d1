/- The positions and choices of a game: the plain laws. Conditions: problems that are right. -/
import Derived.Test.YtkcelmnbfbehbaaGWO
set_option linter.all false
set_option linter.unusedSimpArgs false
set_option linter.unusedVariables false
namespace Go.Proofs.Ytkcelmnbfbehbaa

def keyG (t:OffT) (w r:Nat) (u:Int):List Int:=[u,(t.next.getD w []).getD r 0]
def costG (m s:List (List Int)) (st r:Nat) (u:Int):Int:=at2 m st u.toNat+at2 s r u.toNat
def growG (t:OffT) (w r:Nat):Int:=(t.grows.getD w []).getD r 0
/-- a choice: from, to, cost, growth, request, state -/
def chG (m s:List (List Int)) (t:OffT) (i st w r:Nat) (l:List (List Int)) (u:Int):List Int:=[(i:Int),posT l (keyG t w r u),costG m s st r u,growG t w r,(r:Int),u]
def gmStep (m s:List (List Int)) (t:OffT) (i st w r:Nat) (q:List (List Int)×List (List Int)) (u:Int):List (List Int)×List (List Int):=(addT q.1 (keyG t w r u),q.2++[chG m s t i st w r q.1 u])
def gmRow (m s:List (List Int)) (t:OffT) (i st w r:Nat) (l:List (List Int)) (us:List Int):List (List Int)×List (List Int):=us.foldl (gmStep m s t i st w r) (l,[])
def gmAll (m s:List (List Int)) (t:OffT) (i st w:Nat) (l:List (List Int)):Nat→List (List Int)×List (List (List Int))
  | 0=>(l,[])
  | r+1=>((gmRow m s t i st w r (gmAll m s t i st w l r).1 (srv s m.length r)).1,(gmAll m s t i st w l r).2++[(gmRow m s t i st w r (gmAll m s t i st w l r).1 (srv s m.length r)).2])
structure GmT where
  list:List (List Int)
  ch:List (List (List (List Int)))
def gmState (g:GmT) (i:Nat):Nat:=((g.list.getD i []).getD 0 0).toNat
def gmOff (g:GmT) (i:Nat):Nat:=((g.list.getD i []).getD 1 0).toNat
def gmT (m s:List (List Int)) (t:OffT) (x:Nat):Nat→GmT
  | 0=>⟨[[(x:Int),0]],[]⟩
  | i+1=>⟨(gmAll m s t i (gmState (gmT m s t x i) i) (gmOff (gmT m s t x i) i) (gmT m s t x i).list s.length).1,(gmT m s t x i).ch++[(gmAll m s t i (gmState (gmT m s t x i) i) (gmOff (gmT m s t x i) i) (gmT m s t x i).list s.length).2]⟩
def gmRun (m s:List (List Int)) (t:OffT) (x:Nat):Nat→Nat→GmT×Bool
  | 0,i=>(gmT m s t x i,true)
  | f+1,i=>if i<(gmT m s t x i).list.length then (if 60<(gmT m s t x (i+1)).list.length then (gmT m s t x (i+1),true) else gmRun m s t x f (i+1)) else (gmT m s t x i,false)
def gm (m s:List (List Int)) (x:Nat):GmT×Bool:=bif (offs m s x).2 then (⟨[[(x:Int),0]],[]⟩,true) else gmRun m s (offs m s x).1 x 100 0

theorem gmRow_app (m s:List (List Int)) (t:OffT) (i st w r:Nat) (l:List (List Int)) (us:List Int) (u:Int):gmRow m s t i st w r l (us++[u])=gmStep m s t i st w r (gmRow m s t i st w r l us) u:=by
  unfold gmRow
  rw [List.foldl_append]
  rfl
theorem gmFold_len (m s:List (List Int)) (t:OffT) (i st w r:Nat):∀ (us:List Int) (q:List (List Int)×List (List Int)),q.1.length≤(us.foldl (gmStep m s t i st w r) q).1.length∧(us.foldl (gmStep m s t i st w r) q).1.length≤q.1.length+us.length∧(us.foldl (gmStep m s t i st w r) q).2.length=q.2.length+us.length
  | [],q=>by simp
  | u::us,q=>by
    have h:=gmFold_len m s t i st w r us (gmStep m s t i st w r q u)
    have h2:=addT_len q.1 (keyG t w r u)
    simp only [List.foldl_cons,List.length_cons]
    simp only [gmStep,List.length_append,List.length_singleton] at h ⊢
    omega
theorem gmRow_len (m s:List (List Int)) (t:OffT) (i st w r:Nat) (l:List (List Int)) (us:List Int):l.length≤(gmRow m s t i st w r l us).1.length∧(gmRow m s t i st w r l us).1.length≤l.length+us.length∧(gmRow m s t i st w r l us).2.length=us.length:=by
  have h:=gmFold_len m s t i st w r us (l,[])
  simpa [gmRow] using h
/-- a position: a state and an offset -/
def posOK (n:Nat) (l:Nat) (p:List Int):Prop:=∃ st w:Nat,p=[(st:Int),(w:Int)]∧st<n∧w<l
/-- a table of offsets whose rows are whole -/
structure TabOK (s:List (List Int)) (t:OffT):Prop where
  pos:0<t.list.length
  nlen:t.list.length≤t.next.length
  glen:t.list.length≤t.grows.length
  row:∀ w,w<t.list.length→(t.next.getD w []).length=s.length∧(t.grows.getD w []).length=s.length
  nx:∀ w r,w<t.list.length→r<s.length→∃ k:Nat,(t.next.getD w []).getD r 0=k∧k<t.list.length
  gr:∀ w r,w<t.list.length→r<s.length→0≤(t.grows.getD w []).getD r 0∧(t.grows.getD w []).getD r 0≤119
theorem tab_ok {m s:List (List Int)} {x:Nat} (hp:probB m s=true) (hx:x<m.length) (h:(offs m s x).2=false):TabOK s (offs m s x).1:=by
  unfold offs at h ⊢
  obtain ⟨k,h1,h2,h3,h4⟩:=offRun_good 500 0 h fun j hj=>by omega
  have hok:=offT_ok hp hx k (by omega) h4
  rw [h1]
  show TabOK s (offT m s x k)
  refine ⟨hok.pos,by rw [hok.nlen];exact h3,by rw [hok.glen];exact h3,fun w hw=>hok.row w (by omega),fun w r hw hr=>hok.nx w r (by omega) hr,fun w r hw hr => ?_⟩
  exact ⟨(hok.gr w r (by omega) hr).1,offGr_tight hp hx k (by omega) h4 w r (by omega) hr⟩
def srvOK (m s:List (List Int)) (r:Nat) (us:List Int):Prop:=∀ u∈us,∃ y:Nat,u=y∧y<m.length∧0≤at2 s r y
theorem srv_ok (m s:List (List Int)) (r:Nat):∀ n,n≤m.length→srvOK m s r (srv s n r)
  | 0,_=>fun u hu=>by simp [srv] at hu
  | n+1,h=>fun u hu=>by
    rw [srv_step] at hu
    split at hu
    · rename_i h1
      rcases List.mem_append.1 hu with hu | hu
      · exact srv_ok m s r n (by omega) u hu
      · rw [List.mem_singleton] at hu
        exact ⟨n,hu,by omega,h1⟩
    · exact srv_ok m s r n (by omega) u hu
theorem key_ok {m s:List (List Int)} {t:OffT} (ht:TabOK s t) {w r:Nat} {u:Int} (hw:w<t.list.length) (hr:r<s.length) (hu:∃ y:Nat,u=y∧y<m.length∧0≤at2 s r y):posOK m.length t.list.length (keyG t w r u):=by
  obtain ⟨y,rfl,h1,_⟩:=hu
  obtain ⟨k,h2,h3⟩:=ht.nx w r hw hr
  exact ⟨y,k,by unfold keyG;rw [h2],h1,h3⟩
theorem gmFold_mem {m s:List (List Int)} {t:OffT} (ht:TabOK s t) {i st w r:Nat} (hw:w<t.list.length) (hr:r<s.length):∀ (us:List Int) (q:List (List Int)×List (List Int)),srvOK m s r us→(∀ p∈q.1,posOK m.length t.list.length p)→∀ p∈(us.foldl (gmStep m s t i st w r) q).1,posOK m.length t.list.length p
  | [],q,_,hq,p,hp=>hq p hp
  | u::us,q,hu,hq,p,hp=>by
    refine gmFold_mem ht hw hr us _ (fun v hv=>hu v (by simp [hv])) (fun p' hp' => ?_) p hp
    rcases addT_mem hp' with h | rfl
    · exact hq p' h
    · exact key_ok ht hw hr (hu u (by simp))
theorem gmAll_len (m s:List (List Int)) (t:OffT) (i st w:Nat) (l:List (List Int)):∀ r,l.length≤(gmAll m s t i st w l r).1.length∧(gmAll m s t i st w l r).1.length≤l.length+r*m.length∧(gmAll m s t i st w l r).2.length=r
  | 0=>by simp [gmAll]
  | r+1=>by
    have h1:=gmAll_len m s t i st w l r
    have h2:=gmRow_len m s t i st w r (gmAll m s t i st w l r).1 (srv s m.length r)
    have h3:=srv_len s m.length r
    simp only [gmAll,List.length_append,List.length_singleton]
    rw [Nat.succ_mul]
    omega
theorem gmAll_mem {m s:List (List Int)} {t:OffT} (ht:TabOK s t) {i st w:Nat} (hw:w<t.list.length) {l:List (List Int)} (hl:∀ p∈l,posOK m.length t.list.length p):∀ r,r≤s.length→∀ p∈(gmAll m s t i st w l r).1,posOK m.length t.list.length p
  | 0,_,p,hp=>hl p hp
  | r+1,hr,p,hp=>gmFold_mem ht hw (by omega) _ _ (srv_ok m s r m.length (Nat.le_refl _)) (gmAll_mem ht hw hl r (by omega)) p hp
structure GmOK (m s:List (List Int)) (t:OffT) (g:GmT) (i:Nat):Prop where
  pos:0<g.list.length
  el:∀ p∈g.list,posOK m.length t.list.length p
  clen:g.ch.length=i
theorem gm_at {m s:List (List Int)} {t:OffT} {g:GmT} {i j:Nat} (h:GmOK m s t g i) (hj:j<g.list.length):∃ st w:Nat,g.list.getD j []=[(st:Int),(w:Int)]∧gmState g j=st∧gmOff g j=w∧st<m.length∧w<t.list.length:=by
  obtain ⟨st,w,h1,h2,h3⟩:=h.el (g.list.getD j []) (by rw [getD_in hj];exact List.getElem_mem hj)
  exact ⟨st,w,h1,by unfold gmState;rw [h1];rfl,by unfold gmOff;rw [h1];rfl,h2,h3⟩
theorem gmT_ok {m s:List (List Int)} {t:OffT} (ht:TabOK s t) {x:Nat} (hx:x<m.length):∀ i,(∀ j,j<i→j<(gmT m s t x j).list.length)→GmOK m s t (gmT m s t x i) i
  | 0,_=>⟨by simp [gmT],fun p hp=>by
      simp only [gmT,List.mem_singleton] at hp
      exact ⟨x,0,hp,hx,ht.pos⟩,rfl⟩
  | i+1,hlt=>by
    have ih:=gmT_ok ht hx i fun j hj=>hlt j (by omega)
    obtain ⟨st,w,h1,h2,h3,h4,h5⟩:=gm_at ih (hlt i (by omega))
    have h6:=gmAll_len m s t i st w (gmT m s t x i).list s.length
    have h7:=ih.pos
    refine ⟨?_,?_,?_⟩
    · simp only [gmT,h2,h3]
      omega
    · simp only [gmT,h2,h3]
      exact gmAll_mem ht h5 ih.el s.length (Nat.le_refl _)
    · simp [gmT,ih.clen]
/-- what holds at the beginning of a round -/
structure GmI (m s:List (List Int)) (t:OffT) (x i:Nat):Prop where
  le:i≤60
  len:(gmT m s t x i).list.length≤60
  lt:∀ j,j<i→j<(gmT m s t x j).list.length
  run:gmRun m s t x 100 0=gmRun m s t x (100-i) i
theorem GmI.first (m s:List (List Int)) (t:OffT) (x:Nat):GmI m s t x 0:=⟨by omega,by simp [gmT],fun j hj=>by omega,rfl⟩
theorem GmI.more {m s:List (List Int)} {t:OffT} {x i:Nat} (h:GmI m s t x i) (h1:i<(gmT m s t x i).list.length):100-i=(100-(i+1))+1∧∀ j,j<i+1→j<(gmT m s t x j).list.length :=
  ⟨by have:=h.le;omega,fun j hj=>by
    by_cases e:j=i
    · rw [e];exact h1
    · exact h.lt j (by omega)⟩
theorem GmI.next {m s:List (List Int)} {t:OffT} {x i:Nat} (h:GmI m s t x i) (h1:i<(gmT m s t x i).list.length) (h2:¬ 60<(gmT m s t x (i+1)).list.length):GmI m s t x (i+1) :=
  ⟨by have:=h.len;omega,by omega,(h.more h1).2,by rw [h.run,(h.more h1).1,gmRun,if_pos h1,if_neg h2]⟩
theorem GmI.large {m s:List (List Int)} {t:OffT} {x i:Nat} (h:GmI m s t x i) (h1:i<(gmT m s t x i).list.length) (h2:60<(gmT m s t x (i+1)).list.length):gmRun m s t x 100 0=(gmT m s t x (i+1),true):=by
  rw [h.run,(h.more h1).1,gmRun,if_pos h1,if_pos h2]
theorem GmI.done {m s:List (List Int)} {t:OffT} {x i:Nat} (h:GmI m s t x i) (h1:¬ i<(gmT m s t x i).list.length):gmRun m s t x 100 0=(gmT m s t x i,false):=by
  have:=h.le
  rw [h.run,show 100-i=(100-(i+1))+1 by omega,gmRun,if_neg h1]
end Go.Proofs.Ytkcelmnbfbehbaa
/- The choices of a game: the plain laws. Conditions: problems that are right. -/
set_option linter.all false
set_option linter.unusedSimpArgs false
set_option linter.unusedVariables false
namespace Go.Proofs.Ytkcelmnbfbehbaa

/-- a choice of a request r, in a game of n positions -/
def elOK (m:List (List Int)) (n f r:Nat) (c:List Int):Prop:=∃ (k u:Nat) (a b:Int),c=[(f:Int),(k:Int),a,b,(r:Int),(u:Int)]∧k<n∧u<m.length∧0≤a∧a≤119∧0≤b∧b≤119
theorem elOK.mono {m:List (List Int)} {n n' f r:Nat} {c:List Int} (h:n≤n') (k:elOK m n f r c):elOK m n' f r c:=by
  obtain ⟨k,u,a,b,h1,h2,h3⟩:=k
  exact ⟨k,u,a,b,h1,by omega,h3⟩
structure RowOK (m s:List (List Int)) (n f r:Nat) (row:List (List Int)):Prop where
  st:row.map (fun c=>c.getD 5 0)=srv s m.length r
  el:∀ c∈row,elOK m n f r c
theorem RowOK.mono {m s:List (List Int)} {n n' f r:Nat} {row:List (List Int)} (h:n≤n') (k:RowOK m s n f r row):RowOK m s n' f r row:=⟨k.st,fun c hc=>(k.el c hc).mono h⟩
theorem gmFold_st (m s:List (List Int)) (t:OffT) (i st w r:Nat):∀ (us:List Int) (q:List (List Int)×List (List Int)),(us.foldl (gmStep m s t i st w r) q).2.map (fun c=>c.getD 5 0)=q.2.map (fun c=>c.getD 5 0)++us
  | [],q=>by simp
  | u::us,q=>by
    rw [List.foldl_cons,gmFold_st m s t i st w r us]
    simp [gmStep,chG]
theorem gmFold_el {m s:List (List Int)} {t:OffT} (ht:TabOK s t) (hp:probB m s=true) {i st w r:Nat} (hst:st<m.length) (hw:w<t.list.length) (hr:r<s.length):∀ (us:List Int) (q:List (List Int)×List (List Int)),srvOK m s r us→∀ c∈(us.foldl (gmStep m s t i st w r) q).2,c∈q.2∨elOK m (us.foldl (gmStep m s t i st w r) q).1.length i r c
  | [],q,_,c,hc => .inl hc
  | u::us,q,hu,c,hc=>by
    rw [List.foldl_cons] at hc ⊢
    rcases gmFold_el ht hp hst hw hr us _ (fun v hv=>hu v (by simp [hv])) c hc with h | h
    · simp only [gmStep,List.mem_append,List.mem_singleton] at h
      rcases h with h | rfl
      · exact .inl h
      · right
        obtain ⟨y,rfl,h1,h2⟩:=hu u (by simp)
        obtain ⟨k,h3,h4,-⟩:=posT_ok q.1 (keyG t w r y) []
        have h5:=gmFold_len m s t i st w r us (gmStep m s t i st w r q y)
        have h6:=(prob_m hp hst).2 y h1
        have h7:=prob_s hp hr y h1
        have h8:=ht.gr w r hw hr
        refine ⟨k,y,costG m s st r y,growG t w r,by unfold chG;rw [h3],?_,h1,?_,?_,h8.1,h8.2⟩
        · have h9:(gmStep m s t i st w r q y).1=addT q.1 (keyG t w r y):=rfl
          rw [h9] at h5
          omega
        · unfold costG;rw [Int.toNat_natCast];omega
        · unfold costG;rw [Int.toNat_natCast];omega
    · exact .inr h
theorem gmRow_ok {m s:List (List Int)} {t:OffT} (ht:TabOK s t) (hp:probB m s=true) {i st w r:Nat} (hst:st<m.length) (hw:w<t.list.length) (hr:r<s.length) (l:List (List Int)):RowOK m s (gmRow m s t i st w r l (srv s m.length r)).1.length i r (gmRow m s t i st w r l (srv s m.length r)).2 :=
  ⟨by unfold gmRow;rw [gmFold_st];simp,fun c hc=>by
    rcases gmFold_el ht hp hst hw hr _ _ (srv_ok m s r m.length (Nat.le_refl _)) c hc with h | h
    · simp at h
    · exact h⟩
theorem gmAll_row {m s:List (List Int)} {t:OffT} (ht:TabOK s t) (hp:probB m s=true) {i st w:Nat} (hst:st<m.length) (hw:w<t.list.length) (l:List (List Int)):∀ r,r≤s.length→∀ q,q<r→RowOK m s (gmAll m s t i st w l r).1.length i q ((gmAll m s t i st w l r).2.getD q [])
  | 0,_,q,hq=>by omega
  | r+1,hr,q,hq=>by
    have h1:=gmAll_len m s t i st w l r
    have h2:=gmRow_len m s t i st w r (gmAll m s t i st w l r).1 (srv s m.length r)
    simp only [gmAll]
    by_cases e:q=r
    · subst e
      rw [getD_last h1.2.2.symm]
      exact gmRow_ok ht hp hst hw (by omega) _
    · rw [getD_app (by rw [h1.2.2];omega)]
      exact (gmAll_row ht hp hst hw l r (by omega) q (by omega)).mono h2.1
structure GmC (m s:List (List Int)) (g:GmT):Prop where
  len:∀ j,j<g.ch.length→(g.ch.getD j []).length=s.length
  row:∀ j r,j<g.ch.length→r<s.length→RowOK m s g.list.length j r ((g.ch.getD j []).getD r [])
theorem gmT_len {m s:List (List Int)} {t:OffT} {x i:Nat}:(gmT m s t x i).list.length≤(gmT m s t x (i+1)).list.length:=(gmAll_len m s t i _ _ (gmT m s t x i).list s.length).1
theorem gmT_c {m s:List (List Int)} {t:OffT} (ht:TabOK s t) (hp:probB m s=true) {x:Nat} (hx:x<m.length):∀ i,(∀ j,j<i→j<(gmT m s t x j).list.length)→GmC m s (gmT m s t x i)
  | 0,_=>⟨fun j hj=>by simp [gmT] at hj,fun j r hj=>by simp [gmT] at hj⟩
  | i+1,hlt=>by
    have ih:=gmT_c ht hp hx i fun j hj=>hlt j (by omega)
    have hok:=gmT_ok ht hx i fun j hj=>hlt j (by omega)
    obtain ⟨st,w,h1,h2,h3,h4,h5⟩:=gm_at hok (hlt i (by omega))
    have hcl:=hok.clen
    have hal:=gmAll_len m s t i st w (gmT m s t x i).list s.length
    have hcl':(gmT m s t x (i+1)).ch.length=i+1:=by simp [gmT,hcl]
    refine ⟨fun j hj => ?_,fun j r hj hr => ?_⟩
    · simp only [gmT,h2,h3]
      by_cases e:j=i
      · rw [getD_last (by rw [hcl];exact e)]
        exact hal.2.2
      · rw [getD_app (by omega)]
        exact ih.len j (by omega)
    · simp only [gmT,h2,h3]
      by_cases e:j=i
      · rw [getD_last (by rw [hcl];exact e),e]
        exact gmAll_row ht hp h4 h5 _ s.length (Nat.le_refl _) r hr
      · rw [getD_app (by omega)]
        exact (ih.row j r (by omega) hr).mono hal.1
theorem gmRun_good {m s:List (List Int)} {t:OffT} {x:Nat}:∀ f i,(gmRun m s t x f i).2=false→(∀ j,j<i→j<(gmT m s t x j).list.length)→i≤(gmT m s t x i).list.length→(gmT m s t x i).list.length≤60→∃ k,gmRun m s t x f i=(gmT m s t x k,false)∧(gmT m s t x k).list.length=k∧k≤60∧∀ j,j<k→j<(gmT m s t x j).list.length
  | 0,i,h,_,_,_=>by simp [gmRun] at h
  | f+1,i,h,hlt,hi,h60=>by
    unfold gmRun at h ⊢
    by_cases h1:i<(gmT m s t x i).list.length
    · rw [if_pos h1] at h ⊢
      by_cases h2:60<(gmT m s t x (i+1)).list.length
      · rw [if_pos h2] at h;simp at h
      · rw [if_neg h2] at h ⊢
        have h3:=gmT_len (m:=m) (s:=s) (t:=t) (x:=x) (i:=i)
        exact gmRun_good f (i+1) h (fun j hj=>by
          by_cases e:j=i
          · rw [e];exact h1
          · exact hlt j (by omega)) (by omega) (by omega)
    · rw [if_neg h1]
      exact ⟨i,rfl,by omega,by omega,hlt⟩
/-- a game that is whole -/
structure GmFull (m s:List (List Int)) (g:GmT):Prop where
  prob:probB m s=true
  pos:0<g.list.length
  le:g.list.length≤60
  clen:g.ch.length=g.list.length
  c:GmC m s g
  two:∀ p∈g.list,p.length=2
theorem gm_full {m s:List (List Int)} {x:Nat} (hp:probB m s=true) (hx:x<m.length) (h:(gm m s x).2=false):GmFull m s (gm m s x).1:=by
  unfold gm at h ⊢
  cases ho:(offs m s x).2
  · rw [ho] at h
    simp only [cond_false] at h ⊢
    have ht:=tab_ok hp hx ho
    obtain ⟨k,h1,h2,h3,h4⟩:=gmRun_good 100 0 h (fun j hj=>by omega) (Nat.zero_le _) (by simp [gmT])
    rw [h1]
    have hok:=gmT_ok ht hx k h4
    exact ⟨hp,hok.pos,by show (gmT _ _ _ _ _).list.length≤60;omega,by rw [hok.clen];exact h2.symm,gmT_c ht hp hx k h4,fun p hp=>by obtain ⟨_,_,rfl,_⟩:=hok.el p hp;rfl⟩
  · rw [ho] at h
    simp at h
end Go.Proofs.Ytkcelmnbfbehbaa
