/- Work functions: the plain laws. Conditions: problems that are right. -/
import Derived.Test.YtkcelmnbfbehbaaRU
import Derived.Test.YtkcelmnbfbehbaaGBA
set_option linter.all false
set_option linter.unusedSimpArgs false
set_option linter.unusedVariables false
namespace Go.Proofs.Ytkcelmnbfbehbaa

/-- what a state offers a request on the way to x -/
def wOff (m s:List (List Int)) (w:List Int) (r x y:Nat):Int:=w.getD y 0+at2 s r y+at2 m y x
def wAt (m s:List (List Int)) (w:List Int) (r x:Nat):Int:=minTo (fun y=>decide (0≤at2 s r y)) (wOff m s w r x) m.length
def nextM (m s:List (List Int)) (w:List Int) (r:Nat):List Int:=(List.range m.length).map fun x=>wAt m s w r x
structure WkOK (m:List (List Int)) (w:List Int) (B:Int):Prop where
  len:w.length=m.length
  at_:∀ y,y<m.length→0≤w.getD y 0∧w.getD y 0≤B
theorem nextM_len (m s:List (List Int)) (w:List Int) (r:Nat):(nextM m s w r).length=m.length:=by simp [nextM]
theorem wOff_bd {m s:List (List Int)} {w:List Int} {B:Int} (hp:probB m s=true) (hw:WkOK m w B) {r x y:Nat} (hr:r<s.length) (hx:x<m.length) (hy:y<m.length) (hs:0≤at2 s r y):0≤wOff m s w r x y∧wOff m s w r x y≤B+119:=by
  have h1:=hw.at_ y hy
  have h2:=prob_s hp hr y hy
  have h3:=(prob_m hp hy).2 x hx
  unfold wOff
  omega
theorem wAt_ok {m s:List (List Int)} {w:List Int} {B:Int} (hp:probB m s=true) (hw:WkOK m w B) (hB:B≤1000000) {r x:Nat} (hr:r<s.length) (hx:x<m.length) :
    minS (fun y=>decide (0≤at2 s r y)) (wOff m s w r x) m.length=wAt m s w r x∧0≤wAt m s w r x∧wAt m s w r x≤B+119:=by
  have hb:∀ y,y<m.length→decide (0≤at2 s r y)=true→0≤wOff m s w r x y∧wOff m s w r x y≤B+119:=fun y hy h=>wOff_bd hp hw hr hx hy (of_decide_eq_true h)
  unfold wAt
  rcases minS_eq (n:=m.length) (p:=fun y=>decide (0≤at2 s r y)) (f:=wOff m s w r x) fun y hy h=>⟨(hb y hy h).1,by have:=(hb y hy h).2;omega⟩ with ⟨_,_,h3⟩ | ⟨h1,h2,_,y,h4,h5,h6⟩
  · obtain ⟨y,hy,h4⟩:=prob_any hp hr
    have:=h3 y hy
    simp at this
    omega
  · have:=hb y h4 h5
    exact ⟨h1,h2,by omega⟩
theorem nextM_ok {m s:List (List Int)} {w:List Int} {B:Int} (hp:probB m s=true) (hw:WkOK m w B) (hB:B≤1000000) {r:Nat} (hr:r<s.length):WkOK m (nextM m s w r) (B+119) :=
  ⟨nextM_len m s w r,fun y hy=>by
    have h:=(wAt_ok hp hw hB hr hy).2
    unfold nextM
    rw [rangeMap_getD _ _ hy]
    exact h⟩
/-- the least of the first k + 1 -/
def leastM (w:List Int):Nat→Int
  | 0=>w.getD 0 0
  | k+1=>min (leastM w k) (w.getD (k+1) 0)
theorem leastM_bd {m:List (List Int)} {w:List Int} {B:Int} (hw:WkOK m w B):∀ k,k<m.length→0≤leastM w k∧leastM w k≤B
  | 0,h=>hw.at_ 0 h
  | k+1,h=>by
    have h1:=leastM_bd hw k (by omega)
    have h2:=hw.at_ (k+1) h
    simp only [leastM]
    omega
/-! ### the program's rows -/
def accW (f:Nat→Int) (l:List Int):Int:=l.foldl (fun a y=>min a (f y.toNat)) 1073741824
theorem accW_eq (f:Nat→Int) (l:List Int):accW f l=min 1073741824 (accM f l):=by
  unfold accW accM
  suffices h:∀ (l:List Int) (a b:Int),l.foldl (fun a y=>min a (f y.toNat)) (min a b)=min a (l.foldl (fun a y=>min a (f y.toNat)) b) from h l 1073741824 1152921504606846976
  intro l
  induction l with
  | nil=>intro a b;rfl
  | cons y l ih =>
    intro a b
    simp only [List.foldl_cons]
    rw [show min (min a b) (f y.toNat)=min a (min b (f y.toNat)) by omega]
    exact ih _ _
theorem accW_take {f:Nat→Int} {l:List Int} {t:Nat} (h:t<l.length):accW f (l.take (t+1))=min (accW f (l.take t)) (f (l.getD t 0).toNat):=by
  unfold accW
  rw [take_getD h 0,List.foldl_append]
  rfl
def wAcc (m s:List (List Int)) (w:List Int) (r t x:Nat):Int:=accW (wOff m s w r x) ((srv s m.length r).take t)
/-- the row so far: t states are done, and the next one up to x -/
def rowW (m s:List (List Int)) (w:List Int) (r t x:Nat):List Int:=(List.range m.length).map fun j=>if j<x then wAcc m s w r (t+1) j else wAcc m s w r t j
theorem rowW_len (m s:List (List Int)) (w:List Int) (r t x:Nat):(rowW m s w r t x).length=m.length:=by simp [rowW]
theorem rowW_at {m s:List (List Int)} {w:List Int} {r t x:Nat} (h:x<m.length):(rowW m s w r t x).getD x 0=wAcc m s w r t x:=by
  unfold rowW
  rw [rangeMap_getD _ _ h,if_neg (Nat.lt_irrefl _)]
theorem rowW_set {m s:List (List Int)} {w:List Int} {r t x z:Nat} (h:t<(srv s m.length r).length) (hz:(srv s m.length r).getD t 0=z):(rowW m s w r t x).set x (min (wAcc m s w r t x) (wOff m s w r x z))=rowW m s w r t (x+1):=by
  unfold rowW
  rw [rangeMap_set]
  refine rangeMap_congr fun j _ => ?_
  by_cases e:j=x
  · subst e
    rw [if_pos rfl,if_pos (by omega)]
    unfold wAcc
    rw [accW_take h,hz,Int.toNat_natCast]
  · rw [if_neg e]
    by_cases h1:j<x
    · rw [if_pos h1,if_pos (by omega)]
    · rw [if_neg h1,if_neg (by omega)]
theorem rowW_first {m s:List (List Int)} {w:List Int} {r:Nat}:List.replicate m.length (1073741824:Int)=rowW m s w r 0 0:=by
  unfold rowW
  rw [rep_range]
  exact rangeMap_congr fun j _=>rfl
theorem rowW_next {m s:List (List Int)} {w:List Int} {r t:Nat}:rowW m s w r t m.length=rowW m s w r (t+1) 0:=by
  refine rangeMap_congr fun j hj => ?_
  rw [if_pos hj,if_neg (by omega)]
theorem rowW_all {m s:List (List Int)} {w:List Int} {B:Int} (hp:probB m s=true) (hw:WkOK m w B) (hB:B≤1000000) {r:Nat} (hr:r<s.length):rowW m s w r (srv s m.length r).length 0=nextM m s w r:=by
  refine rangeMap_congr fun j hj => ?_
  rw [if_neg (by omega)]
  unfold wAcc
  rw [List.take_length,accW_eq,accM_srv]
  have h:=(wAt_ok hp hw hB hr hj).2
  unfold wAt at h ⊢
  omega
end Go.Proofs.Ytkcelmnbfbehbaa
/- Offsets: the plain laws. Conditions: problems that are right. -/
set_option linter.all false
set_option linter.unusedSimpArgs false
set_option linter.unusedVariables false
namespace Go.Proofs.Ytkcelmnbfbehbaa

/-! ### a list to which what is new is added -/
section
variable {α:Type} [DecidableEq α]
def whereT (l:List α) (x:α):Int:=idxOf (fun y=>decide (y=x)) l
def addT (l:List α) (x:α):List α:=if whereT l x<0 then l++[x] else l
def posT (l:List α) (x:α):Int:=if whereT l x<0 then l.length else whereT l x
omit [DecidableEq α] in
theorem idxOf_lt {p:α→Bool} {l:List α} (h:0≤idxOf p l):∃ k:Nat,∃ hk:k<l.length,idxOf p l=k∧p l[k]=true:=by
  cases e:l.findIdx? p with
  | none =>
    have:idxOf p l = -1:=by unfold idxOf;rw [e]
    omega
  | some i =>
    obtain ⟨h1,h2,-⟩:=List.findIdx?_eq_some_iff_getElem.1 e
    exact ⟨i,h1,by unfold idxOf;rw [e],h2⟩
theorem addT_len (l:List α) (x:α):l.length≤(addT l x).length∧(addT l x).length≤l.length+1:=by
  unfold addT
  split<;>simp
theorem addT_get {l:List α} {x:α} {d:α} {i:Nat} (h:i<l.length):(addT l x).getD i d=l.getD i d:=by
  unfold addT
  split
  · simp [List.getElem?_append_left h]
  · rfl
theorem addT_mem {l:List α} {x y:α} (h:y∈addT l x):y∈l∨y=x:=by
  unfold addT at h
  split at h
  · simpa using h
  · exact .inl h
theorem posT_ok (l:List α) (x:α) (d:α):∃ k:Nat,posT l x=k∧k<(addT l x).length∧(addT l x).getD k d=x:=by
  unfold posT addT
  by_cases h:whereT l x<0
  · rw [if_pos h,if_pos h]
    exact ⟨l.length,rfl,by simp,by simp⟩
  · rw [if_neg h,if_neg h]
    obtain ⟨k,hk,h1,h2⟩:=idxOf_lt (Int.not_lt.1 h)
    exact ⟨k,h1,hk,by rw [← of_decide_eq_true h2];simp [hk]⟩
end
/-! ### offsets -/
def offG (m s:List (List Int)) (w:List Int) (r:Nat):Int:=leastM (nextM m s w r) (m.length-1)
def lessM (w:List Int) (a:Int):List Int:=w.map fun b=>b-a
def offW (m s:List (List Int)) (w:List Int) (r:Nat):List Int:=lessM (nextM m s w r) (offG m s w r)
def offL (m s:List (List Int)) (w:List Int) (l:List (List Int)):Nat→List (List Int)
  | 0=>l
  | r+1=>addT (offL m s w l r) (offW m s w r)
def offN (m s:List (List Int)) (w:List Int) (l:List (List Int)) (r:Nat):List Int:=(List.range r).map fun j=>posT (offL m s w l j) (offW m s w j)
def offGs (m s:List (List Int)) (w:List Int) (r:Nat):List Int:=(List.range r).map fun j=>offG m s w j
structure OffT where
  list:List (List Int)
  next:List (List Int)
  grows:List (List Int)
def offT (m s:List (List Int)) (x:Nat):Nat→OffT
  | 0=>⟨[m.getD x []],[],[]⟩
  | i+1=>⟨offL m s ((offT m s x i).list.getD i []) (offT m s x i).list s.length,(offT m s x i).next++[offN m s ((offT m s x i).list.getD i []) (offT m s x i).list s.length],(offT m s x i).grows++[offGs m s ((offT m s x i).list.getD i []) s.length]⟩
def offRun (m s:List (List Int)) (x:Nat):Nat→Nat→OffT×Bool
  | 0,i=>(offT m s x i,true)
  | f+1,i=>if i<(offT m s x i).list.length then (if 400<(offT m s x (i+1)).list.length then (⟨(offT m s x (i+1)).list,(offT m s x i).next,(offT m s x i).grows⟩,true) else offRun m s x f (i+1)) else (offT m s x i,false)
def offs (m s:List (List Int)) (x:Nat):OffT×Bool:=offRun m s x 500 0

theorem lessM_len (w:List Int) (a:Int):(lessM w a).length=w.length:=by simp [lessM]
theorem lessM_at {w:List Int} {a:Int} {j:Nat} (h:j<w.length):(lessM w a).getD j 0=w.getD j 0-a:=by
  unfold lessM
  simp [h]
theorem leastM_le (w:List Int):∀ k j,j≤k→leastM w k≤w.getD j 0
  | 0,j,h=>by
    obtain rfl:j=0:=by omega
    exact Int.le_refl _
  | k+1,j,h=>by
    simp only [leastM]
    by_cases e:j=k+1
    · subst e;omega
    · have:=leastM_le w k j (by omega)
      omega
theorem offG_ok {m s:List (List Int)} {w:List Int} {B:Int} (hp:probB m s=true) (hw:WkOK m w B) (hB:B≤1000000) {r:Nat} (hr:r<s.length) (hm:0<m.length):0≤offG m s w r∧offG m s w r≤B+119 :=
  leastM_bd (nextM_ok hp hw hB hr) _ (by omega)
theorem offW_ok {m s:List (List Int)} {w:List Int} {B:Int} (hp:probB m s=true) (hw:WkOK m w B) (hB:B≤1000000) {r:Nat} (hr:r<s.length) (hm:0<m.length):WkOK m (offW m s w r) (B+119):=by
  have h:=nextM_ok hp hw hB hr
  have h1:=offG_ok hp hw hB hr hm
  refine ⟨by unfold offW;rw [lessM_len,h.len],fun y hy => ?_⟩
  have h2:=h.at_ y hy
  have h3:=leastM_le (nextM m s w r) (m.length-1) y (by omega)
  unfold offW
  rw [lessM_at (by rw [h.len];exact hy)]
  unfold offG at *
  omega
theorem offL_len (m s:List (List Int)) (w:List Int) (l:List (List Int)):∀ r,l.length≤(offL m s w l r).length∧(offL m s w l r).length≤l.length+r
  | 0=>by simp [offL]
  | r+1=>by
    have h1:=offL_len m s w l r
    have h2:=addT_len (offL m s w l r) (offW m s w r)
    simp only [offL]
    omega
theorem offL_le (m s:List (List Int)) (w:List Int) (l:List (List Int)) (r:Nat):∀ k,(offL m s w l r).length≤(offL m s w l (r+k)).length
  | 0=>Nat.le_refl _
  | k+1=>by
    have h1:=offL_le m s w l r k
    have h2:=addT_len (offL m s w l (r+k)) (offW m s w (r+k))
    rw [show r+(k+1)=(r+k)+1 by omega]
    simp only [offL]
    omega
theorem offL_get {m s:List (List Int)} {w:List Int} {l:List (List Int)} {i:Nat} (h:i<l.length):∀ r,(offL m s w l r).getD i []=l.getD i []
  | 0=>rfl
  | r+1=>by
    have h1:=offL_len m s w l r
    simp only [offL]
    rw [addT_get (by omega),offL_get h r]
theorem offL_mem {m s:List (List Int)} {w:List Int} {l:List (List Int)} {B:Int} (hp:probB m s=true) (hw:WkOK m w B) (hB:B≤1000000) (hm:0<m.length) (hl:∀ v∈l,WkOK m v B):∀ r,r≤s.length→∀ v∈offL m s w l r,WkOK m v (B+119)
  | 0,_,v,hv=>by
    have h:=hl v hv
    exact ⟨h.len,fun y hy=>by have:=h.at_ y hy;omega⟩
  | r+1,hr,v,hv=>by
    rcases addT_mem hv with h | rfl
    · exact offL_mem hp hw hB hm hl r (by omega) v h
    · exact offW_ok hp hw hB (by omega) hm
structure OffOK (m s:List (List Int)) (t:OffT) (i:Nat):Prop where
  pos:0<t.list.length
  el:∀ v∈t.list,WkOK m v (99+119*i)
  nlen:t.next.length=i
  glen:t.grows.length=i
  row:∀ j,j<i→(t.next.getD j []).length=s.length∧(t.grows.getD j []).length=s.length
  nx:∀ j r,j<i→r<s.length→∃ k:Nat,(t.next.getD j []).getD r 0=k∧k<t.list.length
  gr:∀ j r,j<i→r<s.length→0≤(t.grows.getD j []).getD r 0∧(t.grows.getD j []).getD r 0≤99+119*i
theorem offN_len (m s:List (List Int)) (w:List Int) (l:List (List Int)) (r:Nat):(offN m s w l r).length=r:=by simp [offN]
theorem offGs_len (m s:List (List Int)) (w:List Int) (r:Nat):(offGs m s w r).length=r:=by simp [offGs]
theorem offN_succ (m s:List (List Int)) (w:List Int) (l:List (List Int)) (r:Nat):offN m s w l (r+1)=offN m s w l r++[posT (offL m s w l r) (offW m s w r)]:=by simp [offN,List.range_succ]
theorem offGs_succ (m s:List (List Int)) (w:List Int) (r:Nat):offGs m s w (r+1)=offGs m s w r++[offG m s w r]:=by simp [offGs,List.range_succ]
theorem getD_app {α:Type} {xs:List α} {y d:α} {j:Nat} (h:j<xs.length):(xs++[y]).getD j d=xs.getD j d:=by simp [List.getElem?_append_left h]
theorem getD_last {α:Type} {xs:List α} {y d:α} {j:Nat} (h:j=xs.length):(xs++[y]).getD j d=y:=by subst h;simp
theorem offT_at {m s:List (List Int)} {t:OffT} {i:Nat} (h:OffOK m s t i) {j:Nat} (hj:j<t.list.length):WkOK m (t.list.getD j []) (99+119*i):=h.el _ (by rw [getD_in hj];exact List.getElem_mem hj)
theorem offT_ok {m s:List (List Int)} {x:Nat} (hp:probB m s=true) (hx:x<m.length):∀ i,i≤1000→(∀ j,j<i→j<(offT m s x j).list.length)→OffOK m s (offT m s x i) i
  | 0,_,_=>by
    have h:=prob_m hp hx
    refine ⟨Nat.zero_lt_one,fun v hv => ?_,rfl,rfl,fun j hj=>by omega,fun j r hj=>by omega,fun j r hj=>by omega⟩
    simp only [offT,List.mem_singleton] at hv
    subst hv
    refine ⟨h.1,fun y hy => ?_⟩
    have:=h.2 y hy
    simp only [at2] at this
    omega
  | i+1,hi,hlt=>by
    have ih:=offT_ok hp hx i (by omega) fun j hj=>hlt j (by omega)
    have hw:=offT_at ih (hlt i (by omega))
    have hl:=offL_len m s ((offT m s x i).list.getD i []) (offT m s x i).list s.length
    have hp1:=ih.pos
    refine ⟨by simp only [offT];omega,fun v hv => ?_,by simp [offT,ih.nlen],by simp [offT,ih.glen],fun j hj => ?_,fun j r hj hr => ?_,fun j r hj hr => ?_⟩
    · have:=offL_mem hp hw (by omega) (by omega) ih.el s.length (Nat.le_refl _) v hv
      exact ⟨this.len,fun y hy=>by have:=this.at_ y hy;omega⟩
    · simp only [offT]
      by_cases e:j=i
      · rw [getD_last (by rw [ih.nlen];exact e),getD_last (by rw [ih.glen];exact e),offN_len,offGs_len]
        exact ⟨rfl,rfl⟩
      · rw [getD_app (by rw [ih.nlen];omega),getD_app (by rw [ih.glen];omega)]
        exact ih.row j (by omega)
    · simp only [offT]
      by_cases e:j=i
      · rw [getD_last (by rw [ih.nlen];exact e)]
        unfold offN
        rw [rangeMap_getD _ _ hr]
        obtain ⟨k,h1,h2,-⟩:=posT_ok (offL m s ((offT m s x i).list.getD i []) (offT m s x i).list r) (offW m s ((offT m s x i).list.getD i []) r) []
        refine ⟨k,h1,Nat.lt_of_lt_of_le h2 ?_⟩
        have:=offL_le m s ((offT m s x i).list.getD i []) (offT m s x i).list (r+1) (s.length-(r+1))
        rw [show r+1+(s.length-(r+1))=s.length by omega] at this
        exact this
      · rw [getD_app (by rw [ih.nlen];omega)]
        obtain ⟨k,h1,h2⟩:=ih.nx j r (by omega) hr
        exact ⟨k,h1,by omega⟩
    · simp only [offT]
      by_cases e:j=i
      · rw [getD_last (by rw [ih.glen];exact e)]
        unfold offGs
        rw [rangeMap_getD _ _ hr]
        have:=offG_ok hp hw (by omega) hr (by omega)
        omega
      · rw [getD_app (by rw [ih.glen];omega)]
        have:=ih.gr j r (by omega) hr
        omega
theorem offRun_good {m s:List (List Int)} {x:Nat}:∀ f i,(offRun m s x f i).2=false→(∀ j,j<i→j<(offT m s x j).list.length)→∃ k,offRun m s x f i=(offT m s x k,false)∧k≤i+f∧(offT m s x k).list.length≤k∧∀ j,j<k→j<(offT m s x j).list.length
  | 0,i,h,_=>by simp [offRun] at h
  | f+1,i,h,hlt=>by
    unfold offRun at h ⊢
    by_cases h1:i<(offT m s x i).list.length
    · rw [if_pos h1] at h ⊢
      by_cases h2:400<(offT m s x (i+1)).list.length
      · rw [if_pos h2] at h;simp at h
      · rw [if_neg h2] at h ⊢
        obtain ⟨k,k1,k2,k3,k4⟩:=offRun_good f (i+1) h fun j hj=>by
          by_cases e:j=i
          · rw [e];exact h1
          · exact hlt j (by omega)
        exact ⟨k,k1,by omega,k3,k4⟩
    · rw [if_neg h1]
      exact ⟨i,rfl,by omega,by omega,hlt⟩
/-- what holds at the beginning of a round -/
structure OffI (m s:List (List Int)) (x i:Nat):Prop where
  le:i≤400
  len:(offT m s x i).list.length≤400
  lt:∀ j,j<i→j<(offT m s x j).list.length
  run:offs m s x=offRun m s x (500-i) i
theorem OffI.first (m s:List (List Int)) (x:Nat):OffI m s x 0:=⟨by omega,by simp [offT],fun j hj=>by omega,rfl⟩
theorem OffI.more {m s:List (List Int)} {x i:Nat} (h:OffI m s x i) (h1:i<(offT m s x i).list.length):500-i=(500-(i+1))+1∧∀ j,j<i+1→j<(offT m s x j).list.length :=
  ⟨by have:=h.le;omega,fun j hj=>by
    by_cases e:j=i
    · rw [e];exact h1
    · exact h.lt j (by omega)⟩
theorem OffI.next {m s:List (List Int)} {x i:Nat} (h:OffI m s x i) (h1:i<(offT m s x i).list.length) (h2:¬ 400<(offT m s x (i+1)).list.length):OffI m s x (i+1) :=
  ⟨by have:=h.len;omega,by omega,(h.more h1).2,by rw [h.run,(h.more h1).1,offRun,if_pos h1,if_neg h2]⟩
theorem OffI.large {m s:List (List Int)} {x i:Nat} (h:OffI m s x i) (h1:i<(offT m s x i).list.length) (h2:400<(offT m s x (i+1)).list.length):offs m s x=(⟨(offT m s x (i+1)).list,(offT m s x i).next,(offT m s x i).grows⟩,true):=by
  rw [h.run,(h.more h1).1,offRun,if_pos h1,if_pos h2]
theorem OffI.done {m s:List (List Int)} {x i:Nat} (h:OffI m s x i) (h1:¬ i<(offT m s x i).list.length):offs m s x=(offT m s x i,false):=by
  have:=h.le
  rw [h.run,show 500-i=(500-(i+1))+1 by omega,offRun,if_neg h1]
theorem first_ok {m s:List (List Int)} {x:Nat} (hp:probB m s=true) (hx:x<m.length):lessM (m.getD x []) (leastM (m.getD x []) (m.length-1))=m.getD x []:=by
  have hl:=prob_m hp hx
  have h1:=prob_met hp
  unfold metB at h1
  simp only [Bool.and_eq_true] at h1
  have h2:=h1.1
  unfold tableB at h2
  simp only [Bool.and_eq_true] at h2
  have h3:at2 m x x=0:=(cellOk_iff.1 (allLt_iff.1 (allLt_iff.1 h2.2 x hx) x hx)).2.1 rfl
  have hw:WkOK m (m.getD x []) 99:=⟨hl.1,hl.2⟩
  have h4:=leastM_bd hw (m.length-1) (by omega)
  have h5:=leastM_le (m.getD x []) (m.length-1) x (by omega)
  unfold at2 at h3
  have h6:leastM (m.getD x []) (m.length-1)=0:=by omega
  rw [h6]
  simp [lessM]
end Go.Proofs.Ytkcelmnbfbehbaa
/- Offsets are small: no state is much dearer than its neighbours, so that a request grows the least cost by at most 119. Conditions: problems that are right. -/
set_option linter.all false
set_option linter.unusedSimpArgs false
set_option linter.unusedVariables false
namespace Go.Proofs.Ytkcelmnbfbehbaa

theorem minTo_sh {p:Nat→Bool} {f g:Nat→Int} {c:Int} (hc:0≤c):∀ n,(∀ y,y<n→p y=true→f y≤g y+c)→minTo p f n≤minTo p g n+c
  | 0,_=>by simp only [minTo];omega
  | n+1,h=>by
    have ih:=minTo_sh hc n fun y hy=>h y (by omega)
    simp only [minTo]
    cases hp:p n with
    | false=>simpa using ih
    | true =>
      have h2:=h n (by omega) hp
      simp only [if_true]
      omega
theorem minTo_le {p:Nat→Bool} {f:Nat→Int}:∀ n y,y<n→p y=true→minTo p f n≤f y
  | 0,y,h,_=>by omega
  | n+1,y,h,hp=>by
    simp only [minTo]
    by_cases e:y=n
    · subst e
      rw [if_pos hp]
      omega
    · have ih:=minTo_le (p:=p) (f:=f) n y (by omega) hp
      split<;>omega
theorem prob_tri {m s:List (List Int)} (hp:probB m s=true) {x y z:Nat} (hx:x<m.length) (hy:y<m.length) (hz:z<m.length):at2 m x z≤at2 m x y+at2 m y z:=by
  have h1:=prob_met hp
  unfold metB at h1
  simp only [Bool.and_eq_true] at h1
  exact of_decide_eq_true (allLt_iff.1 (allLt_iff.1 (allLt_iff.1 h1.2 x hx) y hy) z hz)
theorem prob_0 {m s:List (List Int)} (hp:probB m s=true) {x:Nat} (hx:x<m.length):at2 m x x=0:=by
  have h1:=prob_met hp
  unfold metB at h1
  simp only [Bool.and_eq_true] at h1
  have h2:=h1.1
  unfold tableB at h2
  simp only [Bool.and_eq_true] at h2
  exact (cellOk_iff.1 (allLt_iff.1 (allLt_iff.1 h2.2 x hx) x hx)).2.1 rfl
/-- no state is much dearer than its neighbours -/
def Lip (m:List (List Int)) (w:List Int):Prop:=∀ a b,a<m.length→b<m.length→w.getD b 0≤w.getD a 0+at2 m a b
theorem nextM_lip {m s:List (List Int)} (hp:probB m s=true) (w:List Int) (r:Nat):Lip m (nextM m s w r):=fun a b ha hb=>by
  unfold nextM
  rw [rangeMap_getD _ _ hb,rangeMap_getD _ _ ha]
  unfold wAt
  refine minTo_sh ((prob_m hp ha).2 b hb).1 _ fun y hy _ => ?_
  have:=prob_tri hp hy ha hb
  unfold wOff
  omega
theorem leastM_at (w:List Int):∀ k,∃ j,j≤k∧leastM w k=w.getD j 0
  | 0=>⟨0,Nat.le_refl _,rfl⟩
  | k+1=>by
    obtain ⟨j,h1,h2⟩:=leastM_at w k
    by_cases h:leastM w k≤w.getD (k+1) 0
    · exact ⟨j,by omega,by simp only [leastM];omega⟩
    · exact ⟨k+1,Nat.le_refl _,by simp only [leastM];omega⟩
theorem offW_tight {m s:List (List Int)} {w:List Int} (hp:probB m s=true) {r:Nat} (hm:0<m.length):WkOK m (offW m s w r) 99:=by
  have hn:=nextM_len m s w r
  refine ⟨by unfold offW;rw [lessM_len,hn],fun y hy => ?_⟩
  have h3:=leastM_le (nextM m s w r) (m.length-1) y (by omega)
  obtain ⟨j,h1,h2⟩:=leastM_at (nextM m s w r) (m.length-1)
  have h4:=nextM_lip hp w r j y (by omega) hy
  have h5:=(prob_m hp (show j<m.length by omega)).2 y hy
  unfold offW
  rw [lessM_at (by rw [hn];exact hy)]
  unfold offG
  omega
theorem offG_tight {m s:List (List Int)} {w:List Int} (hp:probB m s=true) (hw:WkOK m w 99) {r:Nat} (hr:r<s.length):offG m s w r≤119:=by
  obtain ⟨z,hz,h1⟩:=prob_any hp hr
  have h2:=leastM_le (nextM m s w r) (m.length-1) z (by omega)
  have h3:(nextM m s w r).getD z 0≤wOff m s w r z z:=by
    unfold nextM
    rw [rangeMap_getD _ _ hz]
    exact minTo_le _ _ hz (decide_eq_true h1)
  have h4:=hw.at_ z hz
  have h5:=prob_s hp hr z hz
  have h6:=prob_0 hp hz
  unfold wOff at h3
  unfold offG
  omega
theorem offL_tight {m s:List (List Int)} {w:List Int} {l:List (List Int)} (hp:probB m s=true) (hm:0<m.length) (hl:∀ v∈l,WkOK m v 99):∀ r,∀ v∈offL m s w l r,WkOK m v 99
  | 0,v,hv=>hl v hv
  | r+1,v,hv=>by
    rcases addT_mem hv with h | rfl
    · exact offL_tight hp hm hl r v h
    · exact offW_tight hp hm
theorem offT_tight {m s:List (List Int)} {x:Nat} (hp:probB m s=true) (hx:x<m.length):∀ i,(∀ v∈(offT m s x i).list,WkOK m v 99)
  | 0=>fun v hv=>by
    have h:=prob_m hp hx
    simp only [offT,List.mem_singleton] at hv
    subst hv
    exact ⟨h.1,fun y hy=>h.2 y hy⟩
  | i+1=>offL_tight hp (by omega) (offT_tight hp hx i) s.length
theorem offGr_tight {m s:List (List Int)} {x:Nat} (hp:probB m s=true) (hx:x<m.length):∀ i,i≤1000→(∀ j,j<i→j<(offT m s x j).list.length)→∀ j r,j<i→r<s.length→((offT m s x i).grows.getD j []).getD r 0≤119
  | 0,_,_,j,r,hj,_=>by omega
  | i+1,hi,hlt,j,r,hj,hr=>by
    have ih:=offT_ok hp hx i (by omega) fun j hj=>hlt j (by omega)
    simp only [offT]
    by_cases e:j=i
    · rw [getD_last (by rw [ih.glen];exact e)]
      unfold offGs
      rw [rangeMap_getD _ _ hr]
      have h1:=hlt i (by omega)
      exact offG_tight hp (offT_tight hp hx i _ (by rw [getD_in h1];exact List.getElem_mem h1)) hr
    · rw [getD_app (by rw [ih.glen];omega)]
      exact offGr_tight hp hx i (by omega) (fun j hj=>hlt j (by omega)) j r (by omega) hr
end Go.Proofs.Ytkcelmnbfbehbaa
