/- The pairs of an algorithm and their edges: the plain laws. Conditions: problems and algorithms that are right. -/
import Derived.Test.YtlhdeofkhajigaaGreatGA
import Derived.Test.YtlhdeofkhajigaaGreatGB
import Derived.Test.YtlhdeofkhajigaaGreatGMI
set_option linter.all false
set_option linter.unusedSimpArgs false
set_option linter.unusedVariables false
namespace Go.Proofs.YtlhdeofkhajigaaGreat

/-- the state to which an algorithm goes -/
def nxS (next:List (List Int)) (st r:Nat):Int:=at2 next st r
/-- an edge: from, to, cost, growth -/
def egG (m s next:List (List Int)) (t:OffT) (i st w:Nat) (l:List (List Int)) (r:Nat):List Int:=[(i:Int),posT l (keyG t w r (nxS next st r)),costG m s st r (nxS next st r),growG t w r]
def prAll (m s next:List (List Int)) (t:OffT) (i st w:Nat) (l:List (List Int)):Nat→List (List Int)×List (List Int)
  | 0=>(l,[])
  | r+1=>(addT (prAll m s next t i st w l r).1 (keyG t w r (nxS next st r)),(prAll m s next t i st w l r).2++[egG m s next t i st w (prAll m s next t i st w l r).1 r])
structure PrT where
  list:List (List Int)
  rows:List (List (List Int))
def prState (g:PrT) (i:Nat):Nat:=((g.list.getD i []).getD 0 0).toNat
def prOff (g:PrT) (i:Nat):Nat:=((g.list.getD i []).getD 1 0).toNat
def prT (m s next:List (List Int)) (t:OffT) (x:Nat):Nat→PrT
  | 0=>⟨[[(x:Int),0]],[]⟩
  | i+1=>⟨(prAll m s next t i (prState (prT m s next t x i) i) (prOff (prT m s next t x i) i) (prT m s next t x i).list s.length).1,(prT m s next t x i).rows++[(prAll m s next t i (prState (prT m s next t x i) i) (prOff (prT m s next t x i) i) (prT m s next t x i).list s.length).2]⟩
def prRun (m s next:List (List Int)) (t:OffT) (x:Nat):Nat→Nat→PrT×Bool
  | 0,i=>(prT m s next t x i,true)
  | f+1,i=>if i<(prT m s next t x i).list.length then (if 600<(prT m s next t x (i+1)).list.length then (prT m s next t x (i+1),true) else prRun m s next t x f (i+1)) else (prT m s next t x i,false)
def pr (m s next:List (List Int)) (x:Nat):PrT×Bool:=bif (offs m s x).2 then (⟨[[(x:Int),0]],[]⟩,true) else prRun m s next (offs m s x).1 x 1000 0
theorem prAll_len (m s next:List (List Int)) (t:OffT) (i st w:Nat) (l:List (List Int)):∀ r,l.length≤(prAll m s next t i st w l r).1.length∧(prAll m s next t i st w l r).1.length≤l.length+r∧(prAll m s next t i st w l r).2.length=r
  | 0=>by simp [prAll]
  | r+1=>by
    have h1:=prAll_len m s next t i st w l r
    have h2:=addT_len (prAll m s next t i st w l r).1 (keyG t w r (nxS next st r))
    simp only [prAll,List.length_append,List.length_singleton]
    omega
theorem nx_ok {m s next:List (List Int)} (ha:algB m s next=true) {st r:Nat} (hst:st<m.length) (hr:r<s.length):∃ y:Nat,nxS next st r=y∧y<m.length∧0≤at2 s r y:=by
  have h:=alg_at ha hst hr
  exact ⟨_,h.eq,h.lt,h.ok⟩
theorem prAll_mem {m s next:List (List Int)} {t:OffT} (ht:TabOK s t) (ha:algB m s next=true) {i st w:Nat} (hst:st<m.length) (hw:w<t.list.length) {l:List (List Int)} (hl:∀ p∈l,posOK m.length t.list.length p):∀ r,r≤s.length→∀ p∈(prAll m s next t i st w l r).1,posOK m.length t.list.length p
  | 0,_,p,hp=>hl p hp
  | r+1,hr,p,hp=>by
    rcases addT_mem hp with h | rfl
    · exact prAll_mem ht ha hst hw hl r (by omega) p h
    · exact key_ok ht hw (by omega) (nx_ok ha hst (by omega))
/-- an edge of a request, in a graph of n pairs -/
def egOK (n f:Nat) (c:List Int):Prop:=∃ (k:Nat) (a b:Int),c=[(f:Int),(k:Int),a,b]∧k<n∧0≤a∧a≤119∧0≤b∧b≤119
theorem egOK.mono {n n' f:Nat} {c:List Int} (h:n≤n') (k:egOK n f c):egOK n' f c:=by
  obtain ⟨k,a,b,h1,h2,h3⟩:=k
  exact ⟨k,a,b,h1,by omega,h3⟩
theorem prAll_el {m s next:List (List Int)} {t:OffT} (ht:TabOK s t) (hp:probB m s=true) (ha:algB m s next=true) {i st w:Nat} (hst:st<m.length) (hw:w<t.list.length) (l:List (List Int)):∀ r,r≤s.length→∀ c∈(prAll m s next t i st w l r).2,egOK (prAll m s next t i st w l r).1.length i c
  | 0,_,c,hc=>by simp [prAll] at hc
  | r+1,hr,c,hc=>by
    have h1:=addT_len (prAll m s next t i st w l r).1 (keyG t w r (nxS next st r))
    simp only [prAll,List.mem_append,List.mem_singleton] at hc ⊢
    rcases hc with hc | rfl
    · exact (prAll_el ht hp ha hst hw l r (by omega) c hc).mono h1.1
    · obtain ⟨y,h2,h3,h4⟩:=nx_ok ha hst (show r<s.length by omega)
      obtain ⟨k,h5,h6,-⟩:=posT_ok (prAll m s next t i st w l r).1 (keyG t w r (nxS next st r)) []
      have h7:=(prob_m hp hst).2 y h3
      have h8:=prob_s hp (show r<s.length by omega) y h3
      have h9:=ht.gr w r hw (by omega)
      refine ⟨k,costG m s st r (nxS next st r),growG t w r,by unfold egG;rw [h5],h6,?_,?_,h9.1,h9.2⟩
      · rw [h2];unfold costG;rw [Int.toNat_natCast];omega
      · rw [h2];unfold costG;rw [Int.toNat_natCast];omega
structure PrOK (m s:List (List Int)) (t:OffT) (g:PrT) (i:Nat):Prop where
  pos:0<g.list.length
  el:∀ p∈g.list,posOK m.length t.list.length p
  rlen:g.rows.length=i
  row:∀ j,j<i→(g.rows.getD j []).length=s.length
  eg:∀ j,j<i→∀ c∈g.rows.getD j [],egOK g.list.length j c
theorem pr_at {m s:List (List Int)} {t:OffT} {g:PrT} {i j:Nat} (h:PrOK m s t g i) (hj:j<g.list.length):∃ st w:Nat,g.list.getD j []=[(st:Int),(w:Int)]∧prState g j=st∧prOff g j=w∧st<m.length∧w<t.list.length:=by
  obtain ⟨st,w,h1,h2,h3⟩:=h.el (g.list.getD j []) (by rw [getD_in hj];exact List.getElem_mem hj)
  exact ⟨st,w,h1,by unfold prState;rw [h1];rfl,by unfold prOff;rw [h1];rfl,h2,h3⟩
theorem prT_ok {m s next:List (List Int)} {t:OffT} (ht:TabOK s t) (hp:probB m s=true) (ha:algB m s next=true) {x:Nat} (hx:x<m.length):∀ i,(∀ j,j<i→j<(prT m s next t x j).list.length)→PrOK m s t (prT m s next t x i) i
  | 0,_=>⟨by simp [prT],fun p hp=>by
      simp only [prT,List.mem_singleton] at hp
      exact ⟨x,0,hp,hx,ht.pos⟩,rfl,fun j hj=>by omega,fun j hj=>by omega⟩
  | i+1,hlt=>by
    have ih:=prT_ok ht hp ha hx i fun j hj=>hlt j (by omega)
    obtain ⟨st,w,h1,h2,h3,h4,h5⟩:=pr_at ih (hlt i (by omega))
    have h6:=prAll_len m s next t i st w (prT m s next t x i).list s.length
    have h7:=ih.pos
    have hrl:=ih.rlen
    refine ⟨?_,?_,?_,fun j hj => ?_,fun j hj c hc => ?_⟩
    · simp only [prT,h2,h3]
      omega
    · simp only [prT,h2,h3]
      exact prAll_mem ht ha h4 h5 ih.el s.length (Nat.le_refl _)
    · simp [prT,hrl]
    · simp only [prT,h2,h3]
      by_cases e:j=i
      · rw [getD_last (by rw [hrl];exact e)]
        exact h6.2.2
      · rw [getD_app (by omega)]
        exact ih.row j (by omega)
    · simp only [prT,h2,h3] at hc ⊢
      by_cases e:j=i
      · rw [getD_last (by rw [hrl];exact e)] at hc
        rw [e]
        exact prAll_el ht hp ha h4 h5 _ s.length (Nat.le_refl _) c hc
      · rw [getD_app (by omega)] at hc
        exact (ih.eg j (by omega) c hc).mono h6.1
/-- what holds at the beginning of a round -/
structure PrI (m s next:List (List Int)) (t:OffT) (x i:Nat):Prop where
  le:i≤600
  len:(prT m s next t x i).list.length≤600
  lt:∀ j,j<i→j<(prT m s next t x j).list.length
  run:prRun m s next t x 1000 0=prRun m s next t x (1000-i) i
section
variable {m s next:List (List Int)} {t:OffT} {x i:Nat}
theorem PrI.first (m s next:List (List Int)) (t:OffT) (x:Nat):PrI m s next t x 0:=⟨by omega,by simp [prT],fun j hj=>by omega,rfl⟩
theorem PrI.more (h:PrI m s next t x i) (h1:i<(prT m s next t x i).list.length):1000-i=(1000-(i+1))+1∧∀ j,j<i+1→j<(prT m s next t x j).list.length :=
  ⟨by have:=h.le;omega,fun j hj=>by
    by_cases e:j=i
    · rw [e];exact h1
    · exact h.lt j (by omega)⟩
theorem PrI.nxt (h:PrI m s next t x i) (h1:i<(prT m s next t x i).list.length) (h2:¬ 600<(prT m s next t x (i+1)).list.length):PrI m s next t x (i+1) :=
  ⟨by have:=h.len;omega,by omega,(h.more h1).2,by rw [h.run,(h.more h1).1,prRun,if_pos h1,if_neg h2]⟩
theorem PrI.large (h:PrI m s next t x i) (h1:i<(prT m s next t x i).list.length) (h2:600<(prT m s next t x (i+1)).list.length):prRun m s next t x 1000 0=(prT m s next t x (i+1),true):=by
  rw [h.run,(h.more h1).1,prRun,if_pos h1,if_pos h2]
theorem PrI.done (h:PrI m s next t x i) (h1:¬ i<(prT m s next t x i).list.length):prRun m s next t x 1000 0=(prT m s next t x i,false):=by
  have:=h.le
  rw [h.run,show 1000-i=(1000-(i+1))+1 by omega,prRun,if_neg h1]
end
theorem prT_len {m s nx:List (List Int)} {t:OffT} {x i:Nat}:(prT m s nx t x i).list.length≤(prT m s nx t x (i+1)).list.length:=(prAll_len m s nx t i _ _ (prT m s nx t x i).list s.length).1
theorem prRun_good {m s nx:List (List Int)} {t:OffT} {x:Nat}:∀ f i,(prRun m s nx t x f i).2=false→(∀ j,j<i→j<(prT m s nx t x j).list.length)→i≤(prT m s nx t x i).list.length→(prT m s nx t x i).list.length≤600→∃ k,prRun m s nx t x f i=(prT m s nx t x k,false)∧(prT m s nx t x k).list.length=k∧k≤600∧∀ j,j<k→j<(prT m s nx t x j).list.length
  | 0,i,h,_,_,_=>by simp [prRun] at h
  | f+1,i,h,hlt,hi,h60=>by
    unfold prRun at h ⊢
    by_cases h1:i<(prT m s nx t x i).list.length
    · rw [if_pos h1] at h ⊢
      by_cases h2:600<(prT m s nx t x (i+1)).list.length
      · rw [if_pos h2] at h;simp at h
      · rw [if_neg h2] at h ⊢
        have h3:=prT_len (m:=m) (s:=s) (nx:=nx) (t:=t) (x:=x) (i:=i)
        exact prRun_good f (i+1) h (fun j hj=>by
          by_cases e:j=i
          · rw [e];exact h1
          · exact hlt j (by omega)) (by omega) (by omega)
    · rw [if_neg h1]
      exact ⟨i,rfl,by omega,by omega,hlt⟩
/-- a graph of pairs that is whole -/
structure PrFull (m s:List (List Int)) (g:PrT):Prop where
  prob:probB m s=true
  pos:0<g.list.length
  le:g.list.length≤600
  rlen:g.rows.length=g.list.length
  row:∀ j,j<g.rows.length→(g.rows.getD j []).length=s.length
  eg:∀ j,j<g.rows.length→∀ c∈g.rows.getD j [],egOK g.list.length j c
  two:∀ p∈g.list,p.length=2
theorem pr_full {m s nx:List (List Int)} {x:Nat} (hp:probB m s=true) (ha:algB m s nx=true) (hx:x<m.length) (h:(pr m s nx x).2=false):PrFull m s (pr m s nx x).1:=by
  unfold pr at h ⊢
  cases ho:(offs m s x).2
  · rw [ho] at h
    simp only [cond_false] at h ⊢
    have ht:=tab_ok hp hx ho
    obtain ⟨k,h1,h2,h3,h4⟩:=prRun_good 1000 0 h (fun j hj=>by omega) (Nat.zero_le _) (by simp [prT])
    rw [h1]
    have hok:=prT_ok ht hp ha hx k h4
    have hrl:=hok.rlen
    exact ⟨hp,hok.pos,by show (prT _ _ _ _ _ _).list.length≤600;omega,by rw [hrl];exact h2.symm,fun j hj=>hok.row j (by rw [← hrl];exact hj),fun j hj=>hok.eg j (by rw [← hrl];exact hj),fun p hp=>by obtain ⟨_,_,rfl,_⟩:=hok.el p hp;rfl⟩
  · rw [ho] at h
    simp at h
end Go.Proofs.YtlhdeofkhajigaaGreat
/- The steps of pairs, pair by pair: the plain law. Conditions: edges that stand in the order of the pairs that they leave. -/
set_option linter.all false
set_option linter.unusedSimpArgs false
set_option linter.unusedVariables false
namespace Go.Proofs.YtlhdeofkhajigaaGreat

def c3 (c:List Int):List Int:=[c.getD 1 0,c.getD 2 0,c.getD 3 0]
def eg3 (rows:List (List (List Int))):List (List (List Int)):=rows.map fun r=>r.map c3
/-- an edge is put to its pair -/
def ptN (a:List (List (List Int))) (e:List Int):List (List (List Int)):=a.set (e.getD 0 0).toNat (a.getD (e.getD 0 0).toNat []++[c3 e])
def ptS (N:Nat) (es:List (List Int)):List (List (List Int)):=es.foldl ptN (List.replicate N [])
theorem ptF_len:∀ (es:List (List Int)) (a:List (List (List Int))),(es.foldl ptN a).length=a.length
  | [],_=>rfl
  | e::es,a=>by rw [List.foldl_cons,ptF_len es];simp [ptN]
theorem ptF_row {i:Nat}:∀ (row:List (List Int)) (a:List (List (List Int))),i<a.length→(∀ c∈row,c.getD 0 0=(i:Int))→row.foldl ptN a=a.set i (a.getD i []++row.map c3)
  | [],a,hi,_=>by
    rw [List.map_nil,List.append_nil,getD_in hi,List.set_getElem_self,List.foldl_nil]
  | e::row,a,hi,h=>by
    have he:=h e (by simp)
    rw [List.foldl_cons,ptF_row row _ (by simpa [ptN] using hi) fun c hc=>h c (by simp [hc])]
    unfold ptN
    rw [he,Int.toNat_natCast,List.set_set,getD_in (by simpa using hi),List.getElem_set_self,List.append_assoc,List.map_cons,List.singleton_append]
theorem ptF_all:∀ (rows:List (List (List Int))) (k:Nat) (a:List (List (List Int))),k+rows.length≤a.length→(∀ j,j<rows.length→∀ c∈rows.getD j [],c.getD 0 0=((k+j:Nat):Int))→(∀ j,j<rows.length→a.getD (k+j) []=[])→∀ i,(rows.flatten.foldl ptN a).getD i []=if k≤i∧i<k+rows.length then (rows.getD (i-k) []).map c3 else a.getD i []
  | [],k,a,_,_,_,i=>by
    rw [if_neg (by simp only [List.length_nil];omega)]
    rfl
  | r::rows,k,a,hl,hf,h0,i=>by
    simp only [List.length_cons] at hl
    rw [List.flatten_cons,List.foldl_append,ptF_row (i:=k) r a (by omega) (fun c hc=>by have:=hf 0 (by simp) c hc;simpa using this)]
    have h1:=h0 0 (by simp)
    rw [Nat.add_zero] at h1
    rw [h1,List.nil_append]
    have hg:∀ j,(a.set k (r.map c3)).getD j []=if j=k then r.map c3 else a.getD j []:=fun j=>by
      rw [List.getD_eq_getElem?_getD,List.getElem?_set,List.getD_eq_getElem?_getD]
      by_cases h:k=j
      · subst h
        rw [if_pos rfl,if_pos (by omega),if_pos rfl]
        rfl
      · rw [if_neg h,if_neg (fun e=>h e.symm)]
    rw [ptF_all rows (k+1) _ (by simp;omega) (fun j hj c hc=>by
      have:=hf (j+1) (by simpa using hj) c (by simpa using hc)
      rw [this]
      congr 1
      omega) (fun j hj=>by
      rw [hg,if_neg (by omega),show k+1+j=k+(j+1) by omega]
      exact h0 (j+1) (by simpa using hj)) i,hg]
    by_cases h:i=k
    · subst h
      rw [if_neg (by omega),if_pos rfl,if_pos (by simp),Nat.sub_self]
      rfl
    · rw [if_neg h]
      by_cases h2:k+1≤i∧i<k+1+rows.length
      · rw [if_pos h2,if_pos (by simp;omega),show i-k=(i-(k+1))+1 by omega]
        rfl
      · rw [if_neg h2,if_neg (by simp;omega)]
theorem ptS_all {rows:List (List (List Int))} (h:∀ j,j<rows.length→∀ c∈rows.getD j [],c.getD 0 0=(j:Int)):ptS rows.length rows.flatten=eg3 rows:=by
  have hz:∀ j,(List.replicate rows.length ([]:List (List Int))).getD j []=[]:=fun j=>by
    rw [List.getD_eq_getElem?_getD,List.getElem?_replicate]
    split<;>rfl
  have h1:=ptF_all rows 0 (List.replicate rows.length []) (by simp) (fun j hj c hc=>by rw [Nat.zero_add];exact h j hj c hc) (fun j _=>hz _)
  refine List.ext_getElem (by simp [ptS,ptF_len,eg3]) fun i hi hi2 => ?_
  have hi3:i<rows.length:=by simpa [eg3] using hi2
  have h2:=h1 i
  rw [if_pos (by omega),Nat.sub_zero,getD_in (by simpa [ptS,ptF_len] using hi),getD_in hi3] at h2
  simp only [ptS,eg3,List.getElem_map]
  exact h2
end Go.Proofs.YtlhdeofkhajigaaGreat
/- The pairs of an algorithm and their edges, on the machine: the program's and the reference's. Conditions: those that each names. -/
set_option linter.all false
set_option linter.unusedSimpArgs false
set_option linter.unusedVariables false
namespace Go.Proofs.YtlhdeofkhajigaaGreat
open Go Go.RowKit Am

def prQ (m s nx:List (List Int)) (x:Int):PrT×Bool:=bif takesB m s x [] && algB m s nx then pr m s nx x.toNat else (⟨[],[]⟩,true)
abbrev egs (rows:List (List (List Int))):List (List Int):=rows.flatten
def prO (n:Nat) (q:PrT×Bool):List Ob:=bif q.2 then [] else [.box [.own 1,.own 2,.b (.val (.int .i64 n))],.row 36 (.k 2 q.1.list),.row 93 (.k 4 (egs q.1.rows))]
def prR (q:PrT×Bool):AV:=bif q.2 then .tup [.one (.b (.val (.pointer none))),.one (.b (.val (.bool false)))] else .tup [.one (.ptr 0 0),.one (.b (.val (.bool true)))]
theorem egs_len {c:Nat}:∀ {rows:List (List (List Int))},(∀ j,j<rows.length→(rows.getD j []).length=c)→(egs rows).length=rows.length*c
  | [],_=>by simp
  | r::rows,h=>by
    have h1:=h 0 (by simp)
    have h2:=egs_len (rows:=rows) fun j hj=>by have:=h (j+1) (by simpa using hj);simpa using this
    have h1:r.length=c:=h1
    have h2:rows.flatten.length=rows.length*c:=h2
    show (r::rows).flatten.length=_
    rw [List.flatten_cons,List.length_append,List.length_cons,Nat.succ_mul]
    omega
theorem prT_edges {m s nx:List (List Int)} {t:OffT} {g:PrT} {i:Nat} (h:PrOK m s t g i):(egs g.rows).length=i*s.length:=by
  have h1:=h.rlen
  rw [egs_len (c:=s.length) fun j hj=>h.row j (by omega),h1]
set_option maxHeartbeats 2000000 in
theorem pairsOf_h (m s nx:List (List Int)) (x:Int):DoesH Tryz.prog 45 [prA m s,.sl (.ii nx),.int x] [] [] (prR (prQ m s nx x)) (prO s.length (prQ m s nx x)):=by
  refine spec_hB Tryz.func45 rfl Tryz.ntmps45 cfOK (fun _ _=>by kernel_rfl) rfl rfl rfl ?_
  intro M0 w0 S φ0
  rw [Tryz.results45]
  (refine awp_fits 1 rfl fun hfn => ?_;simp only [xp,simprocAttr] at hfn;simp only [xf,simprocAttr] at hfn)
  refine amGo ?_
  ((try refine Or.inl ?_);refine ⟨_,(isStarted_n _ _ _),.inl rfl,?_⟩;refine amC ?_)
  refine amGo ?_
  ((try refine Or.inl ?_);refine ⟨_,(fun h=>isAlgorithm_d m s nx (prob_rows (takes_ok (by simpa using h)).1)),.inl rfl,?_⟩;refine amC ?_)
  refine amGo ?_
  cases hc':(takesB m s x [] && algB m s nx)
  · have hq:prQ m s nx x=(⟨[],[]⟩,true):=by unfold prQ;rw [hc'];rfl
    rw [hq]
    refine awp_cond amQ (fun hc => ?_) (fun hc => ?_)
    · refine amGo ?_
      (simp only [ends_normal,ends_ret];refine retH_2 (vs:=[_,_]) [] rfl trivial rfl rfl rfl rfl ⟨rfl,rfl,trivial⟩ ?_;try rfl)
    · exfalso
      revert hc hc'
      cases takesB m s x []<;>cases algB m s nx<;>decide
  have hq:prQ m s nx x=pr m s nx x.toNat:=by unfold prQ;rw [hc'];rfl
  rw [hq]
  rw [Bool.and_eq_true] at hc'
  obtain ⟨hk,ha⟩:=hc'
  obtain ⟨hp,⟨y,rfl,hy⟩,-,-⟩:=takes_ok hk
  rw [Int.toNat_natCast]
  rw [hk,ha]
  refine awp_cond amQ (fun hc => ?_) (fun hc => ?_)
  · cases hc
  have hl:=prob_len hp
  refine amGo ?_
  cases ho:(offs m s y).2
  · ((try refine Or.inl ?_);refine ⟨_,(offsets_g hp hy ho),amF,?_⟩;refine amC ?_)
    have ht:=tab_ok hp hy ho
    have hg0:pr m s nx y=prRun m s nx (offs m s y).1 y 1000 0:=by unfold pr;rw [ho];rfl
    rw [hg0]
    generalize (offs m s y).1=t at ht ho
    refine amGo ?_
    refine awp_cond amQ (fun hd => ?_) (fun hd => ?_)
    · cases hd
    (refine amB ?_;refine awp_regO [false,false,true] ?_;refine amN ?_)
    (refine awp_nil 2 1 93 (.k 4 []) rfl rfl rfl (by first | trivial | (intro _ h;cases h)) ?_;simp only [xr,simprocAttr])
    refine amGo ?_
    refine awp_rounds (α:=Nat) (fun i=>[(13,true,.int i)]) [1,3,9,10,12] (fun i=>[.box [.b (.sl (.ii m)),.b (.sl (.ii s))],.row 36 (.k 2 (prT m s nx t y i).list),.box [.own 1,.own 3,.b (.val (.int .i64 s.length))],.row 93 (.k 4 (egs (prT m s nx t y i).rows))]) (PrI m s nx t y) (fun i=>601-i) 0 (by ((try simp only [xk]);(repeat (refine leK_cons ?_ ?_;first | (exact amE) | rotate_left));(refine leK_nil ?_;exact (by rfl));(all_goals (try (simp only [xr,simprocAttr];try refine int_eq1 ?_))))) (PrI.first m s nx t y) fun i hi => ?_
    have hile:=hi.le
    have hlen:=hi.len
    have hok:=prT_ok ht hp ha hy i hi.lt
    have hrl:=hok.rlen
    have hel:=prT_edges (nx:=nx) hok
    have hmul0:i*s.length≤600*4:=Nat.mul_le_mul (by omega) (by omega)
    simp only [xr,simprocAttr]
    refine amGo ?_
    refine awp_cond amQ (fun he => ?_) (fun he => ?_)
    · have he:=of_decide_eq_true he
      have hlt:i<(prT m s nx t y i).list.length:=by omega
      obtain ⟨st,w,hpos,hst,hof,hsl,hwl⟩:=pr_at hok hlt
      have htl:=ht.nlen
      have htg:=ht.glen
      refine amGo ?_
      rw [hpos]
      simp only [xr,simprocAttr]
      refine amGo ?_
      refine awp_rounds (α:=Nat) (fun r=>[(76,true,.int r)]) [1,3,9,10,12,13,14,15,75] (fun r=>[.box [.b (.sl (.ii m)),.b (.sl (.ii s))],.row 36 (.k 2 (prAll m s nx t i st w (prT m s nx t y i).list r).1),.box [.own 1,.own 3,.b (.val (.int .i64 s.length))],.row 93 (.k 4 (egs (prT m s nx t y i).rows++(prAll m s nx t i st w (prT m s nx t y i).list r).2))]) (fun r=>r≤s.length) (fun r=>s.length-r) 0 (by ((try simp only [xk]);(repeat (refine leK_cons ?_ ?_;first | (exact amE) | rotate_left));(refine leK_nil ?_;exact (by simp [prAll]));(all_goals (try (simp only [xr,simprocAttr];try refine int_eq1 ?_))))) (Nat.zero_le _) fun r hr => ?_
      have hal:=prAll_len m s nx t i st w (prT m s nx t y i).list r
      have ham:=prAll_mem ht ha hsl hwl hok.el (i:=i) r hr
      have hell:(egs (prT m s nx t y i).rows++(prAll m s nx t i st w (prT m s nx t y i).list r).2).length≤3000:=by rw [List.length_append];omega
      have hrm:∀ p∈(prAll m s nx t i st w (prT m s nx t y i).list r).1,p.length=2:=fun p hp=>pos_len (ham p hp)
      simp only [xr,simprocAttr]
      refine amGo ?_
      refine awp_cond amQ (fun hd => ?_) (fun hd => ?_)
      · have hd:=of_decide_eq_true hd
        have hr':r<s.length:=by omega
        have htw:=ht.row w hwl
        have hat:=alg_at ha hsl hr'
        obtain ⟨z,hz1,hz2,hz3⟩:=nx_ok ha hsl hr'
        have hz0:(nx.getD st []).getD r 0=(z:Int):=hz1
        have hnl:=hat.len
        have hnr:=hat.row
        refine amGo ?_
        rw [hz0]
        refine amGo ?_
        ((try refine Or.inl ?_);refine ⟨_,(index2_d _ _ _ hrm),.inl rfl,?_⟩;refine amC ?_)
        refine amGo ?_
        have hkg:keyG t w r (nxS nx st r)=[(z:Int),(t.next.getD w []).getD r 0]:=by unfold keyG;rw [hz1]
        refine awp_cond amQ (fun hg => ?_) (fun hg => ?_)
        · have hg:whereT (prAll m s nx t i st w (prT m s nx t y i).list r).1 [(z:Int),(t.next.getD w []).getD r 0]<0:=of_decide_eq_true hg
          have h1:addT (prAll m s nx t i st w (prT m s nx t y i).list r).1 (keyG t w r (nxS nx st r))=(prAll m s nx t i st w (prT m s nx t y i).list r).1++[keyG t w r (nxS nx st r)]:=if_pos (by rw [hkg];exact hg)
          have h2:posT (prAll m s nx t i st w (prT m s nx t y i).list r).1 (keyG t w r (nxS nx st r))=((prAll m s nx t i st w (prT m s nx t y i).list r).1.length:Int):=if_pos (by rw [hkg];exact hg)
          refine amGo ?_
          (refine amB ?_;refine awp_anyM [1,2] 7 [4] (by kernel_rfl) (by kernel_rfl) (by kernel_rfl) (by kernel_rfl) (by kernel_rfl) ?_;refine amM ?_)
          refine amB ?_
          (refine awp_mv 1 5 rfl rfl (by decide) rfl rfl ?_;simp only [xm,simprocAttr])
          refine amGo ?_
          (refine amB ?_;refine awp_anyM [2,3] 21 [4] (by kernel_rfl) (by kernel_rfl) (by kernel_rfl) (by kernel_rfl) (by kernel_rfl) ?_;refine amM ?_)
          ((try refine Or.inl ?_);refine ⟨_,(cost_i m s st z r _ _ _ rfl rfl rfl hp hsl hz2 hr'),.inl rfl,?_⟩;refine amC ?_)
          refine amB ?_
          (refine awp_mv 3 6 rfl rfl (by decide) rfl rfl ?_;simp only [xm,simprocAttr])
          refine amGo ?_
          refine ⟨r+1,by omega,by omega,.inr ⟨4,Nat.le_of_ble_eq_true rfl,leT_of ?_ rfl rfl rfl⟩⟩
          ((try simp only [xk]);(repeat (refine leK_cons ?_ ?_;first | (exact amE) | rotate_left));(refine leK_nil ?_;exact (by simp only [prAll,h1,egG,h2];simp only [costG,growG,hz1,keyG,Int.toNat_natCast,← List.append_assoc];rfl));(all_goals (try (simp only [xr,simprocAttr];try refine int_eq1 ?_))))
        · have hg:¬ whereT (prAll m s nx t i st w (prT m s nx t y i).list r).1 [(z:Int),(t.next.getD w []).getD r 0]<0:=of_decide_eq_false hg
          have h1:addT (prAll m s nx t i st w (prT m s nx t y i).list r).1 (keyG t w r (nxS nx st r))=(prAll m s nx t i st w (prT m s nx t y i).list r).1:=if_neg (by rw [hkg];exact hg)
          have h2:posT (prAll m s nx t i st w (prT m s nx t y i).list r).1 (keyG t w r (nxS nx st r))=whereT (prAll m s nx t i st w (prT m s nx t y i).list r).1 (keyG t w r (nxS nx st r)):=if_neg (by rw [hkg];exact hg)
          refine amGo ?_
          (refine amB ?_;refine awp_anyM [2,3] 21 [4] (by kernel_rfl) (by kernel_rfl) (by kernel_rfl) (by kernel_rfl) (by kernel_rfl) ?_;refine amM ?_)
          ((try refine Or.inl ?_);refine ⟨_,(cost_i m s st z r _ _ _ rfl rfl rfl hp hsl hz2 hr'),.inl rfl,?_⟩;refine amC ?_)
          refine amB ?_
          (refine awp_mv 3 5 rfl rfl (by decide) rfl rfl ?_;simp only [xm,simprocAttr])
          refine amGo ?_
          refine ⟨r+1,by omega,by omega,.inr ⟨4,Nat.le_of_ble_eq_true rfl,leT_of ?_ rfl rfl rfl⟩⟩
          ((try simp only [xk]);(repeat (refine leK_cons ?_ ?_;first | (exact amE) | rotate_left));(refine leK_nil ?_;exact (by simp only [prAll,h1,egG,h2];simp only [costG,growG,hz1,keyG,Int.toNat_natCast,← List.append_assoc];rfl));(all_goals (try (simp only [xr,simprocAttr];try refine int_eq1 ?_))))
      · have hd:=of_decide_eq_false hd
        have hr':r=s.length:=by omega
        subst hr'
        refine amGo ?_
        refine awp_cond amQ (fun hg => ?_) (fun hg => ?_)
        · have hg:=of_decide_eq_true hg
          have hbig:600<(prT m s nx t y (i+1)).list.length:=by simp only [prT,hst,hof];omega
          rw [hi.large hlt hbig]
          refine amGo ?_
          (simp only [ends_normal,ends_ret];refine retH_2 (vs:=[_,_]) [] rfl trivial rfl rfl rfl rfl ⟨rfl,rfl,trivial⟩ ?_;try rfl)
        · have hg:=of_decide_eq_false hg
          have hbig:¬ 600<(prT m s nx t y (i+1)).list.length:=by simp only [prT,hst,hof];omega
          refine amGo ?_
          refine ⟨i+1,hi.nxt hlt hbig,by omega,.inr ⟨4,Nat.le_of_ble_eq_true rfl,leT_of ?_ rfl rfl rfl⟩⟩
          ((try simp only [xk]);(repeat (refine leK_cons ?_ ?_;first | (exact amE) | rotate_left));(refine leK_nil ?_;exact (by simp only [prT,hst,hof,List.flatten_append,List.flatten_cons,List.flatten_nil,List.append_nil];rfl));(all_goals (try (simp only [xr,simprocAttr];try refine int_eq1 ?_))))
    · have he:=of_decide_eq_false he
      rw [hi.done (by omega)]
      refine amGo ?_
      (simp only [ends_normal,ends_ret];refine retH_2 (vs:=[_,_]) [2,1,3] rfl ⟨rfl,rfl,rfl,trivial⟩ rfl rfl rfl rfl ⟨rfl,rfl,trivial⟩ ?_;try rfl)
  · ((try refine Or.inl ?_);refine ⟨_,(offsets_b hp hy ho),amF,?_⟩;refine amC ?_)
    have hq2:pr m s nx y=(⟨[[(y:Int),0]],[]⟩,true):=by unfold pr;rw [ho];rfl
    rw [hq2]
    refine amGo ?_
    refine awp_cond amQ (fun hd => ?_) (fun hd => ?_)
    · refine amGo ?_
      (simp only [ends_normal,ends_ret];refine retH_2 (vs:=[_,_]) [] rfl trivial rfl rfl rfl rfl ⟨rfl,rfl,trivial⟩ ?_;try rfl)
    · cases hd
/-- what the reference keeps of an edge -/
def prAv (q:PrT×Bool):TV := .agg [.b (.sl (.k 2 q.1.list)),.b (.sl (.ki 3 (eg3 q.1.rows))),.b (.val (.bool q.2))]
set_option maxHeartbeats 2000000 in
theorem l9Make_d (m s nx:List (List Int)) (y:Nat) (hp:probB m s=true) (ha:algB m s nx=true) (hy:y<m.length):Does Tryz.prog 98 [prA m s,.sl (.ii nx),.int y] (.imm (.tv (prAv (pr m s nx y)))):=by
  have hl:=prob_len hp
  refine spec_imm Tryz.func98 rfl Tryz.ntmps98 cfOK (fun _ _=>by kernel_rfl) rfl (Nat.le_of_ble_eq_true rfl) ?_
  intro M0 w0
  rw [Tryz.results98]
  refine amGo ?_
  cases ho:(offs m s y).2
  · have ht:=tab_ok hp hy ho
    have hc:=l8All_d m s y hp hy
    unfold offA at hc
    rw [ho] at hc
    have hg0:pr m s nx y=prRun m s nx (offs m s y).1 y 1000 0:=by unfold pr;rw [ho];rfl
    rw [hg0]
    generalize (offs m s y).1=t at ht hc
    ((try refine Or.inl ?_);refine ⟨_,hc,amF,?_⟩;refine amC ?_)
    (refine amB ?_;refine awp_regO [false,false,true] ?_;refine amN ?_)
    (refine awp_nil 4 1 94 (.ki 3 []) rfl rfl rfl (by first | trivial | (intro _ h;cases h)) ?_;simp only [xr,simprocAttr])
    refine amGo ?_
    refine awp_rounds (α:=Nat×Bool) (fun p=>[(9,true,.int p.1)]) [1,3,6,7,8] (fun p=>[.box [.b (.sl (.ii m)),.b (.sl (.ii s))],.box [.b (.val (.slice none 0 0)),.b (.val (.slice none 0 0)),.b (.val (.bool false))],.box [.b (.sl (.ii t.list)),.b (.sl (.ii t.next)),.b (.sl (.ii t.grows)),.b (.val (.bool false))],.row 36 (.k 2 (prT m s nx t y p.1).list),.box [.own 3,.own 5,.b (.val (.bool p.2))],.row 94 (.ki 3 (eg3 (prT m s nx t y p.1).rows))]) (fun p=>(p.2=false∧PrI m s nx t y p.1)∨(p.2=true∧p.1≤601∧prRun m s nx t y 1000 0=(prT m s nx t y p.1,true))) (fun p=>602-p.1) (0,false) (by ((try simp only [xk]);(repeat (refine leK_cons ?_ ?_;first | (exact amE) | rotate_left));(refine leK_nil ?_;exact (by rfl));(all_goals (try (simp only [xr,simprocAttr];try refine int_eq1 ?_))))) (.inl ⟨rfl,PrI.first m s nx t y⟩) fun p hi => ?_
    obtain ⟨i,bad⟩:=p
    rcases hi with ⟨hb,hi⟩ | ⟨hb,hb1,hb2⟩
    · simp only at hb hi
      subst hb
      have hile:=hi.le
      have hlen:=hi.len
      have hok:=prT_ok ht hp ha hy i hi.lt
      have hrl:=hok.rlen
      have hrl3:(eg3 (prT m s nx t y i).rows).length=i:=by simp [eg3,hrl]
      simp only [xr,simprocAttr]
      refine amGo ?_
      refine awp_cond amQ (fun he => ?_) (fun he => ?_)
      · have hlt:i<(prT m s nx t y i).list.length:=by
          by_cases h:(i:Int)<(prT m s nx t y i).list.length
          · omega
          · rw [decide_eq_false h] at he;cases he
        obtain ⟨st,w,hpos,hst,hof,hsl,hwl⟩:=pr_at hok hlt
        have htl:=ht.nlen
        have htg:=ht.glen
        have hms:=prob_m hp hsl
        refine amGo ?_
        rw [hpos]
        simp only [xr,simprocAttr]
        refine amGo ?_
        refine awp_rounds (α:=Nat) (fun r=>[(13,true,.int r)]) [1,3,6,7,8,9,10,11,12] (fun r=>[.box [.b (.sl (.ii m)),.b (.sl (.ii s))],.box [.b (.val (.slice none 0 0)),.b (.val (.slice none 0 0)),.b (.val (.bool false))],.box [.b (.sl (.ii t.list)),.b (.sl (.ii t.next)),.b (.sl (.ii t.grows)),.b (.val (.bool false))],.row 36 (.k 2 (prAll m s nx t i st w (prT m s nx t y i).list r).1),.box [.own 3,.own 5,.b (.val (.bool false))],.row 94 (.ki 3 (eg3 (prT m s nx t y i).rows)),.row 96 (.k 3 ((prAll m s nx t i st w (prT m s nx t y i).list r).2.map c3))]) (fun r=>r≤s.length) (fun r=>s.length-r) 0 (by ((try simp only [xk]);(repeat (refine leK_cons ?_ ?_;first | (exact amE) | rotate_left));(refine leK_nil ?_;exact (by rfl));(all_goals (try (simp only [xr,simprocAttr];try refine int_eq1 ?_))))) (Nat.zero_le _) fun r hr => ?_
        have hal:=prAll_len m s nx t i st w (prT m s nx t y i).list r
        have ham:=prAll_mem ht ha hsl hwl hok.el (i:=i) r hr
        have hal3:((prAll m s nx t i st w (prT m s nx t y i).list r).2.map c3).length=r:=by rw [List.length_map,hal.2.2]
        have hrm:∀ p∈(prAll m s nx t i st w (prT m s nx t y i).list r).1,p.length=2:=fun p hp=>pos_len (ham p hp)
        simp only [xr,simprocAttr]
        refine amGo ?_
        refine awp_cond amQ (fun hd => ?_) (fun hd => ?_)
        · have hd:=of_decide_eq_true hd
          have hr':r<s.length:=by omega
          have htw:=ht.row w hwl
          have hat:=alg_at ha hsl hr'
          obtain ⟨z,hz1,hz2,hz3⟩:=nx_ok ha hsl hr'
          have hz0:(nx.getD st []).getD r 0=(z:Int):=hz1
          have hnl:=hat.len
          have hnr:=hat.row
          have hrow:=prob_rows hp r hr'
          have hmu:=hms.2 z hz2
          have hsu:=prob_s hp hr' z hz2
          unfold at2 at hmu hsu
          have hkg:keyG t w r (nxS nx st r)=[(z:Int),(t.next.getD w []).getD r 0]:=by unfold keyG;rw [hz1]
          refine amGo ?_
          rw [hz0]
          refine amGo ?_
          refine awp_rounds (α:=Nat) (fun k=>[(16,true,.int k)]) [1,3,6,7,8,9,10,11,12,13,14,15] (fun _=>[.box [.b (.sl (.ii m)),.b (.sl (.ii s))],.box [.b (.val (.slice none 0 0)),.b (.val (.slice none 0 0)),.b (.val (.bool false))],.box [.b (.sl (.ii t.list)),.b (.sl (.ii t.next)),.b (.sl (.ii t.grows)),.b (.val (.bool false))],.row 36 (.k 2 (prAll m s nx t i st w (prT m s nx t y i).list r).1),.box [.own 3,.own 5,.b (.val (.bool false))],.row 94 (.ki 3 (eg3 (prT m s nx t y i).rows)),.row 96 (.k 3 ((prAll m s nx t i st w (prT m s nx t y i).list r).2.map c3)),.box [.b (.val (.int .i64 z)),.b (.val (.int .i64 ((t.next.getD w []).getD r 0)))]]) (fun k=>k≤(prAll m s nx t i st w (prT m s nx t y i).list r).1.length∧∀ x∈(prAll m s nx t i st w (prT m s nx t y i).list r).1.take k,decide (x=[(z:Int),(t.next.getD w []).getD r 0])=false) (fun k=>(prAll m s nx t i st w (prT m s nx t y i).list r).1.length-k) 0 (by ((try simp only [xk]);(repeat (refine leK_cons ?_ ?_;first | (exact amE) | rotate_left));(refine leK_nil ?_;exact (by rfl));(all_goals (try (simp only [xr,simprocAttr];try refine int_eq1 ?_))))) ⟨Nat.zero_le _,by simp⟩ fun k hk => ?_
          obtain ⟨hk,hno⟩:=hk
          simp only [xr,simprocAttr]
          refine amGo ?_
          refine awp_cond amQ (fun hf => ?_) (fun hf => ?_)
          · have hk':k<(prAll m s nx t i st w (prT m s nx t y i).list r).1.length:=by
              by_cases h:(k:Int)<(prAll m s nx t i st w (prT m s nx t y i).list r).1.length
              · omega
              · rw [decide_eq_false h] at hf;cases hf
            rw [decide_eq_true (show (k:Int)<(prAll m s nx t i st w (prT m s nx t y i).list r).1.length by omega),two_of hrm hk'] at hf
            have hd2:decide ((prAll m s nx t i st w (prT m s nx t y i).list r).1[k]=[(z:Int),(t.next.getD w []).getD r 0])=false:=by simpa using hf
            refine amGo ?_
            refine ⟨k+1,by omega,fun x hx' => ?_,by omega,.inl ?_⟩
            · rw [List.take_succ_eq_append_getElem hk',List.mem_append,List.mem_singleton] at hx'
              rcases hx' with hx' | rfl
              · exact hno x hx'
              · exact hd2
            · ((try simp only [xk]);(repeat (refine leK_cons ?_ ?_;first | (exact amE) | rotate_left));(refine leK_nil ?_;exact (by rfl));(all_goals (try (simp only [xr,simprocAttr];try refine int_eq1 ?_))))
          · have hwk:posT (prAll m s nx t i st w (prT m s nx t y i).list r).1 (keyG t w r (nxS nx st r))=(k:Int):=by
              rw [hkg]
              by_cases h:k<(prAll m s nx t i st w (prT m s nx t y i).list r).1.length
              · rw [decide_eq_true (show (k:Int)<(prAll m s nx t i st w (prT m s nx t y i).list r).1.length by omega),two_of hrm h] at hf
                have hd2:decide ((prAll m s nx t i st w (prT m s nx t y i).list r).1[k]=[(z:Int),(t.next.getD w []).getD r 0])=true:=by simpa using hf
                have e:whereT (prAll m s nx t i st w (prT m s nx t y i).list r).1 [(z:Int),(t.next.getD w []).getD r 0]=k:=idxOf_some h hd2 hno
                unfold posT
                rw [e,if_neg (by omega)]
              · obtain rfl:k=(prAll m s nx t i st w (prT m s nx t y i).list r).1.length:=by omega
                rw [List.take_length] at hno
                have e:whereT (prAll m s nx t i st w (prT m s nx t y i).list r).1 [(z:Int),(t.next.getD w []).getD r 0] = -1:=idxOf_none hno
                unfold posT
                rw [e,if_pos (by omega)]
            refine amGo ?_
            refine awp_cond amQ (fun hg => ?_) (fun hg => ?_)
            · have hg:=of_decide_eq_true hg
              have hw0:whereT (prAll m s nx t i st w (prT m s nx t y i).list r).1 (keyG t w r (nxS nx st r))<0:=posT_new.1 (by rw [hwk];exact hg)
              have h1:addT (prAll m s nx t i st w (prT m s nx t y i).list r).1 (keyG t w r (nxS nx st r))=(prAll m s nx t i st w (prT m s nx t y i).list r).1++[keyG t w r (nxS nx st r)]:=if_pos hw0
              refine amGo ?_
              (refine amB ?_;refine awp_anyM [6] 29 [] (by kernel_rfl) (by kernel_rfl) (by kernel_rfl) (by kernel_rfl) (by kernel_rfl) ?_;refine amM ?_)
              refine amB ?_
              (refine awp_mv 6 8 rfl rfl (by decide) rfl rfl ?_;simp only [xm,simprocAttr])
              refine amGo ?_
              refine ⟨r+1,by omega,by omega,.inr ⟨7,Nat.le_of_ble_eq_true rfl,leT_of ?_ rfl rfl rfl⟩⟩
              ((try simp only [xk]);(repeat (refine leK_cons ?_ ?_;first | (exact amE) | rotate_left));(refine leK_nil ?_;exact (by simp only [prAll,h1,List.map_append,egG];have hwk2:=hwk;rw [hkg] at hwk2;simp only [hkg,hwk2];simp only [hz1,costG,Int.toNat_natCast];rfl));(all_goals (try (simp only [xr,simprocAttr];try refine int_eq1 ?_))))
            · have hg:=of_decide_eq_false hg
              have hw0:¬ whereT (prAll m s nx t i st w (prT m s nx t y i).list r).1 (keyG t w r (nxS nx st r))<0:=fun h=>hg (by rw [← hwk];exact posT_new.2 h)
              have h1:addT (prAll m s nx t i st w (prT m s nx t y i).list r).1 (keyG t w r (nxS nx st r))=(prAll m s nx t i st w (prT m s nx t y i).list r).1:=if_neg hw0
              refine amGo ?_
              (refine amB ?_;refine awp_anyM [6] 29 [] (by kernel_rfl) (by kernel_rfl) (by kernel_rfl) (by kernel_rfl) (by kernel_rfl) ?_;refine amM ?_)
              refine amB ?_
              (refine awp_mv 6 8 rfl rfl (by decide) rfl rfl ?_;simp only [xm,simprocAttr])
              refine amGo ?_
              refine ⟨r+1,by omega,by omega,.inr ⟨7,Nat.le_of_ble_eq_true rfl,leT_of ?_ rfl rfl rfl⟩⟩
              ((try simp only [xk]);(repeat (refine leK_cons ?_ ?_;first | (exact amE) | rotate_left));(refine leK_nil ?_;exact (by simp only [prAll,h1,List.map_append,egG];have hwk2:=hwk;rw [hkg] at hwk2;simp only [hkg,hwk2];simp only [hz1,costG,Int.toNat_natCast];rfl));(all_goals (try (simp only [xr,simprocAttr];try refine int_eq1 ?_))))
        · have hd:=of_decide_eq_false hd
          have hr':r=s.length:=by omega
          subst hr'
          refine amB ?_
          (refine awp_frz 6 rfl ?_;simp only [xz,simprocAttr])
          refine amGo ?_
          have hgl:(prT m s nx t y (i+1)).list=(prAll m s nx t i st w (prT m s nx t y i).list s.length).1:=by simp only [prT,hst,hof]
          by_cases hbig:600<(prT m s nx t y (i+1)).list.length
          · have hdec:decide ((600:Int)<(prAll m s nx t i st w (prT m s nx t y i).list s.length).1.length)=true:=decide_eq_true (by rw [← hgl];omega)
            rw [hdec]
            refine ⟨(i+1,true),.inr ⟨rfl,by omega,hi.large hlt hbig⟩,by simp only;omega,.inr ⟨6,Nat.le_of_ble_eq_true rfl,leT_of ?_ rfl rfl rfl⟩⟩
            ((try simp only [xk]);(repeat (refine leK_cons ?_ ?_;first | (exact amE) | rotate_left));(refine leK_nil ?_;exact (by simp only [prT,hst,hof,eg3,List.map_append];rfl));(all_goals (try (simp only [xr,simprocAttr];try refine int_eq1 ?_))))
          · have hdec:decide ((600:Int)<(prAll m s nx t i st w (prT m s nx t y i).list s.length).1.length)=false:=decide_eq_false (by rw [← hgl];omega)
            rw [hdec]
            refine ⟨(i+1,false),.inl ⟨rfl,hi.nxt hlt hbig⟩,by simp only;omega,.inr ⟨6,Nat.le_of_ble_eq_true rfl,leT_of ?_ rfl rfl rfl⟩⟩
            ((try simp only [xk]);(repeat (refine leK_cons ?_ ?_;first | (exact amE) | rotate_left));(refine leK_nil ?_;exact (by simp only [prT,hst,hof,eg3,List.map_append];rfl));(all_goals (try (simp only [xr,simprocAttr];try refine int_eq1 ?_))))
      · have hnl:¬ i<(prT m s nx t y i).list.length:=fun h=>by
          rw [decide_eq_true (show (i:Int)<(prT m s nx t y i).list.length by omega)] at he;cases he
        rw [hi.done hnl]
        refine amGoR ?_
        (refine awp_frz 3 rfl ?_;simp only [xz,simprocAttr])
        (refine awp_frz 5 rfl ?_;simp only [xz,simprocAttr])
        refine amGo ?_
        (simp only [xec,simprocAttr];refine ⟨_,⟨amK,rfl⟩,rfl,Imp.eq ?_⟩)
        rfl
    · simp only at hb hb1 hb2
      subst hb
      rw [hb2]
      simp only [xr,simprocAttr]
      refine amGo ?_
      refine awp_cond amQ (fun he => ?_) (fun he => ?_)
      · exfalso
        revert he
        cases decide ((i:Int)<(prT m s nx t y i).list.length)<;>decide
      · refine amGoR ?_
        (refine awp_frz 3 rfl ?_;simp only [xz,simprocAttr])
        (refine awp_frz 5 rfl ?_;simp only [xz,simprocAttr])
        refine amGo ?_
        (simp only [xec,simprocAttr];refine ⟨_,⟨amK,rfl⟩,rfl,Imp.eq ?_⟩)
        rfl
  · have hc:=l8All_d m s y hp hy
    unfold offA at hc
    rw [ho] at hc
    have hg0:pr m s nx y=(⟨[[(y:Int),0]],[]⟩,true):=by unfold pr;rw [ho];rfl
    rw [hg0]
    generalize (offs m s y).1=t at hc
    ((try refine Or.inl ?_);refine ⟨_,hc,amF,?_⟩;refine amC ?_)
    (refine amB ?_;refine awp_regO [false,false,true] ?_;refine amN ?_)
    (refine awp_nil 4 1 94 (.ki 3 []) rfl rfl rfl (by first | trivial | (intro _ h;cases h)) ?_;simp only [xr,simprocAttr])
    refine amGo ?_
    refine awp_rounds (α:=Nat) (fun _=>[(9,true,.int 0)]) [1,3,6,7,8] (fun _=>[.box [.b (.sl (.ii m)),.b (.sl (.ii s))],.box [.b (.val (.slice none 0 0)),.b (.val (.slice none 0 0)),.b (.val (.bool false))],.box [.b (.sl (.ii t.list)),.b (.sl (.ii t.next)),.b (.sl (.ii t.grows)),.b (.val (.bool true))],.row 36 (.k 2 [[(y:Int),0]]),.box [.own 3,.own 5,.b (.val (.bool true))],.row 94 (.ki 3 [])]) (fun _=>True) (fun i=>i) 0 (by ((try simp only [xk]);(repeat (refine leK_cons ?_ ?_;first | (exact amE) | rotate_left));(try exact leK_nil rfl);(all_goals (try (simp only [xr,simprocAttr];try refine int_eq1 ?_))))) trivial fun i _ => ?_
    simp only [xr,simprocAttr]
    refine amGo ?_
    refine awp_cond amQ (fun he => ?_) (fun he => ?_)
    · cases he
    · refine amGoR ?_
      (refine awp_frz 3 rfl ?_;simp only [xz,simprocAttr])
      (refine awp_frz 5 rfl ?_;simp only [xz,simprocAttr])
      refine amGo ?_
      (simp only [xec,simprocAttr];refine ⟨_,⟨amK,rfl⟩,rfl,Imp.eq ?_⟩)
      rfl
theorem prQ_full {m s nx:List (List Int)} {x:Int} (h:(prQ m s nx x).2=false):PrFull m s (prQ m s nx x).1:=by
  unfold prQ at h ⊢
  cases hc:(takesB m s x [] && algB m s nx)
  · rw [hc] at h;cases h
  · rw [hc] at h
    simp only [cond_true] at h ⊢
    rw [Bool.and_eq_true] at hc
    obtain ⟨hp,⟨y,rfl,hy⟩,-,-⟩:=takes_ok hc.1
    rw [Int.toNat_natCast] at h ⊢
    exact pr_full hp hc.2 hy h
end Go.Proofs.YtlhdeofkhajigaaGreat
