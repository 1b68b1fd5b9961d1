/- The ratio of a game: what it is, that there is one only, and what an adversary's requests tell of it. Plain laws. Conditions: games that are whole. -/
import Derived.Test.YtkcelmnbfbehbaaRatP
import Derived.Test.YtkcelmnbfbehbaaRA2
set_option linter.all false
set_option linter.unusedSimpArgs false
set_option linter.unusedVariables false
namespace Go.Proofs.Ytkcelmnbfbehbaa

/-- there is a credit for a ratio -/
def HasC (s:List (List Int)) (g:GmT) (a b:Int):Prop:=∃ C,CrP g.list.length (rqR s) (gmE g a b) C
/-- the ratio of a game, in lowest terms -/
structure IsGR (s:List (List Int)) (g:GmT) (a b:Int):Prop where
  na:0≤a
  nb:1≤b
  low:Int.gcd a b=1
  has:HasC s g a b
  least:∀ p q,0≤p→1≤q→p*b<a*q→¬ HasC s g p q
def ResG (s:List (List Int)) (g:GmT):Option (Int×Int)→Prop
  | some (a,b)=>IsGR s g a b
  | none=>∀ p q,0≤p→1≤q→¬ HasC s g p q
theorem resG_one {s:List (List Int)} {g:GmT}:∀ {o o':Option (Int×Int)},ResG s g o→ResG s g o'→o=o'
  | none,none,_,_=>rfl
  | some (a,b),some (a',b'),h,h'=>by
    have h1:¬ a*b'<a'*b:=fun hlt=>h'.least a b h.na h.nb hlt h.has
    have h2:¬ a'*b<a*b':=fun hlt=>h.least a' b' h'.na h'.nb hlt h'.has
    obtain ⟨rfl,rfl⟩:=low_eq h.na h.nb h'.na h'.nb h.low h'.low (by omega)
    rfl
  | none,some (a,b),h,h'=>absurd h'.has (h a b h'.na h'.nb)
  | some (a,b),none,h',h=>absurd h'.has (h a b h'.na h'.nb)
/-- what is known while ratios are tried: no smaller one has a credit -/
structure GrI (s:List (List Int)) (g:GmT) (a b:Int):Prop where
  na:0≤a
  ma:a≤71400
  nb:1≤b
  mb:b≤71400
  low:Int.gcd a b=1
  least:∀ p q,0≤p→1≤q→p*b<a*q→¬ HasC s g p q
theorem GrI.first (s:List (List Int)) (g:GmT):GrI s g 0 1:=⟨by omega,by omega,by omega,by omega,by decide,fun p q hp hq h=>by rw [Int.zero_mul,Int.mul_one] at h;omega⟩
theorem GrI.done {s:List (List Int)} {g:GmT} {a b:Int} (h:GrI s g a b) (hc:HasC s g a b):ResG s g (some (a,b)):=⟨h.na,h.nb,h.low,hc,h.least⟩

/-! ### the least quotient of cost and growth -/
def wtL (a b:Int) (e:List Int):Int:=a*e.getD 3 0-b*e.getD 2 0
theorem sum_wtL (a b:Int):∀ es,sumE (wtL a b) es=a*sumE grwE es-b*sumE cstE es
  | []=>by simp [sumE]
  | e::es=>by
    simp only [sumE,sum_wtL a b es,wtL,cstE,grwE,Int.mul_add]
    omega
structure IsLq (E:List (List Int)) (a b:Int):Prop where
  na:0≤a
  ma:a≤71400
  nb:1≤b
  mb:b≤71400
  low:Int.gcd a b=1
  pot:∃ L,PotE E (wtL a b) L
  cyc:∃ v es,Wk E v es v∧0<sumE grwE es∧b*sumE cstE es=a*sumE grwE es
def ResL (E:List (List Int)):Option (Int×Int)→Prop
  | some (a,b)=>IsLq E a b
  | none=>∃ L,PotE E (wtL 1048576 1) L

/-! ### an adversary's requests -/
def runF (f:Nat→List Int) (v:Nat):Nat→List (List Int)
  | 0=>[]
  | k+1=>f v::runF f (eto (f v)) k
theorem runF_len (f:Nat→List Int):∀ k v,(runF f v k).length=k
  | 0,_=>rfl
  | k+1,v=>by simp [runF,runF_len f k]
theorem runF_ok {E:List (List Int)} {S:Nat→Prop} {f:Nat→List Int} {wt:List Int→Int} {C:Nat→Int} (h:∀ i,S i→f i∈E∧efr (f i)=i∧S (eto (f i))∧wt (f i)+C (eto (f i))≤C i):∀ k v,S v→S (itr (fun i=>eto (f i)) k v)∧Wk E v (runF f v k) (itr (fun i=>eto (f i)) k v)∧sumE wt (runF f v k)+C (itr (fun i=>eto (f i)) k v)≤C v
  | 0,v,hv=>⟨hv,.nil v,by simp [runF,sumE,itr]⟩
  | k+1,v,hv=>by
    obtain ⟨h1,h2,h3,h4⟩:=h v hv
    obtain ⟨k1,k2,k3⟩:=runF_ok h k (eto (f v)) h3
    rw [itr_one]
    refine ⟨k1,?_,?_⟩
    · have:=Wk.cons h1 k2
      rwa [h2] at this
    · show wt (f v)+sumE wt (runF f (eto (f v)) k)+_≤_
      omega
/-- where the adversary asks, an algorithm with a credit goes round a cycle without gain -/
theorem adv_cycle {E:List (List Int)} {S:Nat→Prop} {n:Nat} {wt:List Int→Int} {C:Nat→Int} (hS:∀ i,S i→i<n) (hne:∃ i,S i) (h:∀ i,S i→∃ e,e∈E∧efr e=i∧S (eto e)∧wt e+C (eto e)≤C i):∃ v es,Wk E v es v∧0<es.length∧es.length≤n∧sumE wt es≤0:=by
  obtain ⟨i0,h0⟩:=hne
  obtain ⟨f,hf⟩:=Classical.axiomOfChoice (r:=fun i e=>S i→e∈E∧efr e=i∧S (eto e)∧wt e+C (eto e)≤C i) fun i=>by
    by_cases hi:S i
    · obtain ⟨e,he⟩:=h i hi
      exact ⟨e,fun _=>he⟩
    · exact ⟨[],fun h=>absurd h hi⟩
  have hr:=runF_ok hf
  obtain ⟨i,j,hij,hj,e⟩:=pigeon n (fun k=>itr (fun i=>eto (f i)) k i0) fun k _=>hS _ (hr k i0 h0).1
  obtain ⟨d,rfl⟩:=Nat.exists_eq_add_of_lt hij
  have hi:=(hr i i0 h0).1
  obtain ⟨k1,k2,k3⟩:=hr (d+1) _ hi
  have e2:itr (fun i=>eto (f i)) (d+1) (itr (fun i=>eto (f i)) i i0)=itr (fun i=>eto (f i)) i i0:=by
    rw [← itr_add,← Nat.add_assoc]
    exact e.symm
  rw [e2] at k2 k3
  exact ⟨_,_,k2,by rw [runF_len];omega,by rw [runF_len];omega,by omega⟩
/-- numbers that fall too slowly make all cycles gain -/
theorem adv_pos {E:List (List Int)} {wt:List Int→Int} {V:Nat→Int} {N:Int} (h:∀ e∈E,V (efr e)+1≤N*wt e+V (eto e)):∀ {v u:Nat} {es:List (List Int)},Wk E v es u→V v+es.length≤N*sumE wt es+V u
  | _,_,_,.nil v=>by simp [sumE]
  | _,_,_,.cons he k=>by
    have h1:=adv_pos h k
    have h2:=h _ he
    simp only [sumE,Int.mul_add,List.length_cons]
    omega
theorem adv_pos0 {E:List (List Int)} {wt:List Int→Int} {V:Nat→Int} {N:Int} (hN:0<N) (h:∀ e∈E,V (efr e)+1≤N*wt e+V (eto e)) {v:Nat} {es:List (List Int)} (hw:Wk E v es v) (hl:0<es.length):0<sumE wt es:=by
  have h1:=adv_pos h hw
  rcases Int.lt_or_le 0 (sumE wt es) with h2 | h2
  · exact h2
  · have:=Int.mul_le_mul_of_nonneg_left h2 (show 0≤N by omega)
    rw [Int.mul_zero] at this
    omega
/-- the least quotient of the cycles that an adversary leaves is a greater ratio, and no smaller one than it has a credit -/
theorem adv_some {s:List (List Int)} {g:GmT} {E:List (List Int)} {a b a' b':Int} (hb:1≤b) (hpos:∀ {v:Nat} {es:List (List Int)},Wk E v es v→0<es.length→0<sumE (wtR a b) es) (hcr:∀ p q,HasC s g p q→∃ v es,Wk E v es v∧0<es.length∧sumE (wtR p q) es≤0) (hB:∀ {v:Nat} {es:List (List Int)},Wk E v es v→0≤sumE cstE es∧0≤sumE grwE es) (hL:IsLq E a' b') :
    a*b'<a'*b∧GrI s g a' b':=by
  have hnb:=hL.nb
  have key:∀ p q,0≤p→1≤q→HasC s g p q→a'*q≤p*b':=fun p q hp hq hc=>by
    obtain ⟨v,es,h1,h2,h3⟩:=hcr p q hc
    have h4:=hpos h1 h2
    obtain ⟨h5,h6⟩:=hB h1
    obtain ⟨L,hP⟩:=hL.pot
    have h7:=hP.closed h1
    rw [sum_wtR] at h3 h4
    rw [sum_wtL] at h7
    generalize sumE cstE es=C at *
    generalize sumE grwE es=G at *
    have hG:0<G:=by
      rcases Int.lt_or_eq_of_le h6 with h8 | h8
      · exact h8
      · rw [← h8,Int.mul_zero] at h3 h4
        have hC:0<C:=Int.lt_of_mul_lt_mul_left (a:=b) (by rw [Int.mul_zero];omega) (by omega)
        have:=Int.mul_le_mul_of_nonneg_right hq (show 0≤C by omega)
        omega
    -- a' G ≤ b' C and q C ≤ p G
    have h8:a'*q*G≤p*b'*G:=by
      have e1:a'*q*G=q*(a'*G):=by rw [Int.mul_comm a' q,Int.mul_assoc]
      have e2:p*b'*G=b'*(p*G):=by rw [Int.mul_comm p b',Int.mul_assoc]
      rw [e1,e2]
      have h9:=Int.mul_le_mul_of_nonneg_left (show a'*G≤b'*C by omega) (show 0≤q by omega)
      have h10:=Int.mul_le_mul_of_nonneg_left (show q*C≤p*G by omega) (show 0≤b' by omega)
      have e3:q*(b'*C)=b'*(q*C):=Int.mul_left_comm ..
      omega
    exact Int.le_of_mul_le_mul_right h8 hG
  refine ⟨?_,hL.na,hL.ma,hL.nb,hL.mb,hL.low,fun p q hp hq hlt hc => ?_⟩
  · obtain ⟨v,es,h1,h2,h3⟩:=hL.cyc
    have hl:0<es.length:=by
      cases es with
      | nil=>simp [sumE] at h2
      | cons e es=>simp
    have h4:=hpos h1 hl
    rw [sum_wtR] at h4
    generalize sumE cstE es=C at *
    generalize sumE grwE es=G at *
    refine Int.lt_of_mul_lt_mul_right (a:=G) ?_ (by omega)
    have e1:a*b'*G=b'*(a*G):=by rw [Int.mul_comm a b',Int.mul_assoc]
    have e2:a'*b*G=b'*(b*C):=by rw [Int.mul_comm a' b,Int.mul_assoc,← h3,Int.mul_left_comm]
    rw [e1,e2]
    exact Int.mul_lt_mul_of_pos_left (by omega) (by omega)
  · have:=key p q hp hq hc
    omega
theorem adv_none {s:List (List Int)} {g:GmT} {E:List (List Int)} {a b:Int} {n:Nat} (hn:n≤600) (hb:1≤b) (hpos:∀ {v:Nat} {es:List (List Int)},Wk E v es v→0<es.length→0<sumE (wtR a b) es) (hcr:∀ p q,HasC s g p q→∃ v es,Wk E v es v∧0<es.length∧es.length≤n∧sumE (wtR p q) es≤0) (hB:EdB E n) (hL:∃ L,PotE E (wtL 1048576 1) L):ResG s g none:=by
  intro p q hp hq hc
  obtain ⟨v,es,h1,h2,hl,h3⟩:=hcr p q hc
  have h4:=hpos h1 h2
  obtain ⟨h5,h5',h6,h6'⟩:=h1.bd hB
  obtain ⟨L,hP⟩:=hL
  have h7:=hP.closed h1
  rw [sum_wtR] at h3 h4
  rw [sum_wtL] at h7
  generalize sumE cstE es=C at *
  generalize sumE grwE es=G at *
  rcases Int.lt_or_eq_of_le h6 with h8 | h8
  · omega
  · rw [← h8,Int.mul_zero] at h3 h4
    have hC:0<C:=Int.lt_of_mul_lt_mul_left (a:=b) (by rw [Int.mul_zero];omega) (by omega)
    have:=Int.mul_le_mul_of_nonneg_right hq (show 0≤C by omega)
    omega
end Go.Proofs.Ytkcelmnbfbehbaa
