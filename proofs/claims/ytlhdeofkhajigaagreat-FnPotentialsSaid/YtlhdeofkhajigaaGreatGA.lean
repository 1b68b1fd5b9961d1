/- The positions and choices of a game: the plain laws. Conditions: problems that are right. -/
import Derived.Test.YtlhdeofkhajigaaGreatGWO
set_option linter.all false
set_option linter.unusedSimpArgs false
set_option linter.unusedVariables false
namespace Go.Proofs.YtlhdeofkhajigaaGreat

def keyG (t:OffT) (w r:Nat) (u:Int):List Int:=[u,(t.next.getD w []).getD r 0]
def costG (m s:List (List Int)) (st r:Nat) (u:Int):Int:=at2 m st u.toNat+at2 s r u.toNat
def growG (t:OffT) (w r:Nat):Int:=(t.grows.getD w []).getD r 0
/-- a choice: from, to, cost, growth, request, state -/
def chG (m s:List (List Int)) (t:OffT) (i st w r:Nat) (l:List (List Int)) (u:Int):List Int:=[(i:Int),posT l (keyG t w r u),costG m s st r u,growG t w r,(r:Int),u]
def gmStep (m s:List (List Int)) (t:OffT) (i st w r:Nat) (q:List (List Int)×List (List Int)) (u:Int):List (List Int)×List (List Int):=(addT q.1 (keyG t w r u),q.2++[chG m s t i st w r q.1 u])
def gmRow (m s:List (List Int)) (t:OffT) (i st w r:Nat) (l:List (List Int)) (us:List Int):List (List Int)×List (List Int):=us.foldl (gmStep m s t i st w r) (l,[])
def gmAll (m s:List (List Int)) (t:OffT) (i st w:Nat) (l:List (List Int)):Nat→List (List Int)×List (List (List Int))
  | 0=>(l,[])
  | r+1=>((gmRow m s t i st w r (gmAll m s t i st w l r).1 (srv s m.length r)).1,(gmAll m s t i st w l r).2++[(gmRow m s t i st w r (gmAll m s t i st w l r).1 (srv s m.length r)).2])
structure GmT where
  list:List (List Int)
  ch:List (List (List (List Int)))
def gmState (g:GmT) (i:Nat):Nat:=((g.list.getD i []).getD 0 0).toNat
def gmOff (g:GmT) (i:Nat):Nat:=((g.list.getD i []).getD 1 0).toNat
def gmT (m s:List (List Int)) (t:OffT) (x:Nat):Nat→GmT
  | 0=>⟨[[(x:Int),0]],[]⟩
  | i+1=>⟨(gmAll m s t i (gmState (gmT m s t x i) i) (gmOff (gmT m s t x i) i) (gmT m s t x i).list s.length).1,(gmT m s t x i).ch++[(gmAll m s t i (gmState (gmT m s t x i) i) (gmOff (gmT m s t x i) i) (gmT m s t x i).list s.length).2]⟩
def gmRun (m s:List (List Int)) (t:OffT) (x:Nat):Nat→Nat→GmT×Bool
  | 0,i=>(gmT m s t x i,true)
  | f+1,i=>if i<(gmT m s t x i).list.length then (if 60<(gmT m s t x (i+1)).list.length then (gmT m s t x (i+1),true) else gmRun m s t x f (i+1)) else (gmT m s t x i,false)
/-- a position: a state and an offset -/
def posOK (n:Nat) (l:Nat) (p:List Int):Prop:=∃ st w:Nat,p=[(st:Int),(w:Int)]∧st<n∧w<l
/-- a table of offsets whose rows are whole -/
structure TabOK (s:List (List Int)) (t:OffT):Prop where
  pos:0<t.list.length
  nlen:t.list.length≤t.next.length
  glen:t.list.length≤t.grows.length
  row:∀ w,w<t.list.length→(t.next.getD w []).length=s.length∧(t.grows.getD w []).length=s.length
  nx:∀ w r,w<t.list.length→r<s.length→∃ k:Nat,(t.next.getD w []).getD r 0=k∧k<t.list.length
  gr:∀ w r,w<t.list.length→r<s.length→0≤(t.grows.getD w []).getD r 0∧(t.grows.getD w []).getD r 0≤119
theorem tab_ok {m s:List (List Int)} {x:Nat} (hp:probB m s=true) (hx:x<m.length) (h:(offs m s x).2=false):TabOK s (offs m s x).1:=by
  unfold offs at h ⊢
  obtain ⟨k,h1,h2,h3,h4⟩:=offRun_good 500 0 h fun j hj=>by omega
  have hok:=offT_ok hp hx k (by omega) h4
  rw [h1]
  show TabOK s (offT m s x k)
  refine ⟨hok.pos,by rw [hok.nlen];exact h3,by rw [hok.glen];exact h3,fun w hw=>hok.row w (by omega),fun w r hw hr=>hok.nx w r (by omega) hr,fun w r hw hr => ?_⟩
  exact ⟨(hok.gr w r (by omega) hr).1,offGr_tight hp hx k (by omega) h4 w r (by omega) hr⟩
theorem key_ok {m s:List (List Int)} {t:OffT} (ht:TabOK s t) {w r:Nat} {u:Int} (hw:w<t.list.length) (hr:r<s.length) (hu:∃ y:Nat,u=y∧y<m.length∧0≤at2 s r y):posOK m.length t.list.length (keyG t w r u):=by
  obtain ⟨y,rfl,h1,_⟩:=hu
  obtain ⟨k,h2,h3⟩:=ht.nx w r hw hr
  exact ⟨y,k,by unfold keyG;rw [h2],h1,h3⟩
/-- what holds at the beginning of a round -/
structure GmI (m s:List (List Int)) (t:OffT) (x i:Nat):Prop where
  le:i≤60
  len:(gmT m s t x i).list.length≤60
  lt:∀ j,j<i→j<(gmT m s t x j).list.length
  run:gmRun m s t x 100 0=gmRun m s t x (100-i) i
theorem GmI.first (m s:List (List Int)) (t:OffT) (x:Nat):GmI m s t x 0:=⟨by omega,by simp [gmT],fun j hj=>by omega,rfl⟩
end Go.Proofs.YtlhdeofkhajigaaGreat
/- The choices of a game: the plain laws. Conditions: problems that are right. -/
set_option linter.all false
set_option linter.unusedSimpArgs false
set_option linter.unusedVariables false
namespace Go.Proofs.YtlhdeofkhajigaaGreat

/-- a choice of a request r, in a game of n positions -/
def elOK (m:List (List Int)) (n f r:Nat) (c:List Int):Prop:=∃ (k u:Nat) (a b:Int),c=[(f:Int),(k:Int),a,b,(r:Int),(u:Int)]∧k<n∧u<m.length∧0≤a∧a≤119∧0≤b∧b≤119
theorem elOK.mono {m:List (List Int)} {n n' f r:Nat} {c:List Int} (h:n≤n') (k:elOK m n f r c):elOK m n' f r c:=by
  obtain ⟨k,u,a,b,h1,h2,h3⟩:=k
  exact ⟨k,u,a,b,h1,by omega,h3⟩
structure RowOK (m s:List (List Int)) (n f r:Nat) (row:List (List Int)):Prop where
  st:row.map (fun c=>c.getD 5 0)=srv s m.length r
  el:∀ c∈row,elOK m n f r c
theorem RowOK.mono {m s:List (List Int)} {n n' f r:Nat} {row:List (List Int)} (h:n≤n') (k:RowOK m s n f r row):RowOK m s n' f r row:=⟨k.st,fun c hc=>(k.el c hc).mono h⟩
end Go.Proofs.YtlhdeofkhajigaaGreat
