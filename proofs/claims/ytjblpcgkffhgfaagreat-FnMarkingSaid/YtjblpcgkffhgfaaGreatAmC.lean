/- An own slice of slices of which a part is only read: how it begins, goes on and ends. Conditions: those that each names. -/
import Derived.Test.YtjblpcgkffhgfaaGreatGAM
set_option linter.all false
set_option linter.unusedSimpArgs false
set_option linter.unusedVariables false
namespace Go.Proofs.YtjblpcgkffhgfaaGreat
namespace Am
open Go Go.RowKit

theorem cell_sub {c:Cn} (h:c.flat=false) (j:Nat):c.cell j 0 = .sl (c.sub j):=by
  cases c<;>simp [Cn.flat] at h<;>rfl
section
variable {P:Program} {cf:Cfg} {b:Base} {N:Nat} {φ:Nat→Value} {β:Nat→Nat→Prop} {M:Mem} {T:Tm} {H:List Ob} {a:Act} {w w':World}
/-- element k of a thing is taken out -/
theorem RA.cutAt (h:RA P cf b N φ β M ⟨T,H⟩ a w) {i k e e2:Nat} {c y:Cn} {o:Ob} (hoi:H[i]? = some o) (hk:k<c.len) (h0:c.flat=false) {vs:List Value} {Ss:Nat→Nat→Prop} (h1:w.ownsRow 0 e 1 (φ i) c.len vs) (h2:∀ g,blk (φ i)=some g→β i g∧∀ j,¬ Ss j g) (h3:∀ j g,j<k+1→Ss j g→β i g) (h4:∀ j k g,Ss j g→Ss k g→j=k)
    (h5:∀ j v,j<c.len→vs[j]? = some v→(j<k→OwnT w [e2] (c.sub j) v (Ss j))∧(j=k→OwnT w [e2] y v (Ss j))∧(k<j→(c.cell j 0).rel M v)) :
    ∃ φ' β',RA P cf b N φ' β' M ⟨T,(H.set i (.cut e e2 c k (.own H.length)))++[.row e2 y]⟩ a w:=by
  have hil:=(List.getElem?_eq_some_iff.1 hoi).1
  have hlv:=h1.1
  rw [Nat.mul_one] at hlv
  have hjv:k<vs.length:=by omega
  have hvj:vs[k]? = some vs[k]:=List.getElem?_eq_getElem hjv
  generalize hu:vs[k]=u at hvj
  have hlen:((H.set i (.cut e e2 c k (.own H.length)))++[Ob.row e2 y]).length=H.length+1:=by simp
  have hφ:∀ l,l<H.length→upd φ H.length u l=φ l:=fun l hl=>upd_ne φ u (by omega)
  let S1:Nat→Prop:=fun g=>blk (φ i)=some g∨∃ l,l<k∧Ss l g
  have hone:∀ l,l<H.length+1→H.length≤l∨l=i→l=i∨l=H.length:=fun l hl hc=>by rcases hc with hc | hc<;>omega
  have hbi:∀ g,updS (updS β i S1) H.length (Ss k) i g→S1 g:=fun g hg=>by rw [updS_ne _ _ (by omega),updS_same] at hg;exact hg
  have hbn:∀ g,updS (updS β i S1) H.length (Ss k) H.length g→Ss k g:=fun g hg=>by rw [updS_same] at hg;exact hg
  have hS1:∀ g,S1 g→β i g:=fun g hg=>by
    rcases hg with hg | ⟨l,hl,hg⟩
    · exact (h2 g hg).1
    · exact h3 l g (by omega) hg
  have hd:∀ g,S1 g→Ss k g→False:=fun g hg hg'=>by
    rcases hg with hg | ⟨l,hl,hg⟩
    · exact (h2 g hg).2 k hg'
    · have:=h4 l k g hg hg'
      omega
  have:=h.change (w':=w) id (fun l=>l=i) (φ':=upd φ H.length u) (β':=updS (updS β i S1) H.length (Ss k)) (H':=(H.set i (.cut e e2 c k (.own H.length)))++[.row e2 y]) (Kept.refl _ _) (by simp)
    (fun y hy v hv=>Lf.rel_phi hy hφ hv) (fun y hy=>ltB_mono (by simp) hy)
    (fun l p hl hne=>by
      have hlt:=(List.getElem?_eq_some_iff.1 hl).1
      refine ⟨?_,hφ l hlt,by rw [updS_ne _ _ (by omega),updS_ne _ _ hne]⟩
      rw [List.getElem?_append_left (by simpa using hlt),List.getElem?_set,if_neg (fun e=>hne e.symm),Ob.map_id]
      exact hl)
    (fun l p hl hc=>by
      rcases hone l (by rw [← hlen];exact (List.getElem?_eq_some_iff.1 hl).1) hc with rfl | rfl
      · rw [List.getElem?_append_left (by simpa using hil),List.getElem?_set,if_pos rfl,if_pos hil] at hl
        cases hl
        rw [updS_ne _ _ (by omega),updS_same,hφ l hil]
        refine ⟨⟨h0,vs,Ss,h1,fun g hg=>⟨.inl hg,(h2 g hg).2⟩,fun j g hj hg => .inr ⟨j,hj,hg⟩,h4,fun j v hj hv=>⟨fun hlt=>(h5 j v hj hv).1 hlt,fun e3 => ?_,fun hlt=>(h5 j v hj hv).2.2 hlt⟩⟩,by rw [hlen];simp [Ob.lt,Lf.ltB]⟩
        subst e3
        rw [hvj] at hv
        cases hv
        exact (upd_same _ _ _).symm
      · rw [List.getElem?_append_right (by simp)] at hl
        simp at hl
        subst hl
        rw [updS_same,upd_same]
        obtain ⟨q0,vs',q1,q2,q3⟩:OwnT w [e2] y u (Ss k):=(h5 k u hk hvj).2.1 rfl
        exact ⟨⟨vs',q1,flat_rel q0 q2,q3⟩,trivial⟩)
    (fun l g hl hc hg=>by
      rcases hone l (by rw [← hlen];exact hl) hc with rfl | rfl
      · have:=hS1 g (hbi g hg)
        exact ⟨h.hi.lt l g hil this,.inr ⟨l,hil,rfl,this⟩⟩
      · have:=h3 k g (by omega) (hbn g hg)
        exact ⟨h.hi.lt i g hil this,.inr ⟨i,hil,rfl,this⟩⟩)
    (fun l m g hl hm hc hc' hg hg'=>by
      rcases hone l (by rw [← hlen];exact hl) hc with rfl | rfl<;>rcases hone m (by rw [← hlen];exact hm) hc' with rfl | rfl
      · rfl
      · exact (hd g (hbi g hg) (hbn g hg')).elim
      · exact (hd g (hbi g hg') (hbn g hg)).elim
      · rfl)
    (fun l hl=>hφ l (fx_lt h hl))
  rw [Tm.map_id] at this
  exact ⟨_,_,this⟩
end
section
variable {P:Program} {cf:Cfg} {b:Base} {N:Nat} {X:St} {Q:Exit→St→Prop} {c:Code}
/-- the last element of an own slice of own slices is taken out -/
theorem awp_cut (i k:Nat) {e e2:Nat} (d0 y:Cn) {d:Cn} (hi:X.H[i]? = some (.tree [e,e2] d)) (hk:k+1=d0.len) (hp:d0.putS k y=some d) (h:awp P cf b N c Q ⟨X.T,(X.H.set i (.cut e e2 d0 k (.own X.H.length)))++[.row e2 y]⟩):awp P cf b N c Q X:=fun a w ⟨φ,β,M,hR⟩=>by
  obtain ⟨h0,vs,Ss,h1,h2,h3,h4,h5⟩:OwnT w (e::e2::[]) d (φ i) (β i):=hR.hi.ob i _ hi
  obtain ⟨p1,p2,p3,p4,p5⟩:=putS_spec hp (by omega)
  obtain ⟨φ',β',hR'⟩:=hR.cutAt (k:=k) (c:=d0) (y:=y) (e:=e) (e2:=e2) hi (by omega) p2 (by rw [← p1];exact h1) h2 (fun j g _ hg=>h3 j g hg) h4 fun j v hj hv=>by
    have h6:=h5 j v (by rw [p1];exact hj) hv
    exact ⟨fun hlt=>by rw [← p5 j (by omega)];exact h6,fun e=>by subst e;rw [p4] at h6;exact h6,fun hlt=>absurd hj (by omega)⟩
  exact h a w ⟨φ',β',M,hR'⟩
/-- all elements are only read from now on -/
theorem awp_cutE (i:Nat) {e e2:Nat} {d d' x:Cn} (hi:X.H[i]? = some (.cut e e2 d 0 (.b (.sl x)))) (hk:0<d.len) (hp:d.putS 0 x=some d') (h:awp P cf b N c Q ⟨X.T,X.H.set i (.row e d')⟩):awp P cf b N c Q X:=fun a w ⟨φ,β,M,hR⟩=>by
  obtain ⟨h0,vs,Ss,h1,h2,h3,h4,h5⟩:=hR.hi.ob i _ hi
  obtain ⟨p1,p2,p3,p4,p5⟩:=putS_spec hp hk
  have hlv:=h1.1
  obtain ⟨q1,q2⟩:=Cn.rel_sub (M:=M) (c:=d') (vs:=vs) p3 (by rw [p1];exact hlv) fun j v hj hv=>by
    rw [p1] at hj
    have h6:=h5 j v hj hv
    rcases Nat.eq_zero_or_pos j with rfl | hj0
    · rw [p4]
      exact h6.2.1 rfl
    · rw [p5 j (by omega),← cell_sub h0]
      exact h6.2.2 hj0
  exact h a w ⟨φ,β,M,hR.set (List.getElem?_eq_some_iff.1 hi).1 (grownBy_refl w none) (fun g hg=>by cases hg) ⟨vs,by rw [q2,p1];exact h1,q1,fun g hg=>(h2 g hg).1⟩ trivial⟩
end
end Am
end Go.Proofs.YtjblpcgkffhgfaaGreat
