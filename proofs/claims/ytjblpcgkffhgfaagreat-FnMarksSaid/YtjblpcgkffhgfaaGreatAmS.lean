/- Regions that run in the text's order, with what drawn regions may do: stores into rows of which one element is out, calls to which one thing is handed. Conditions: those that each names. -/
import Derived.Test.YtjblpcgkffhgfaaGreatGAM
set_option linter.all false
set_option linter.unusedSimpArgs false
set_option linter.unusedVariables false
namespace Go.Proofs.YtjblpcgkffhgfaaGreat
open Go Go.RowKit
namespace Am
theorem dG_list {P:Program} {cf:Cfg} {b:Base} {N:Nat} {ops:Array Oper} {S:List (Nat×List Nat)} {D:List Nat} {X:List (Nat×List Nat)} {n0 n:Nat} {Q:Tm→List Ob→Prop} {Q':Exit→Act→World→Prop} (hfx:b.fx.length≤n0) (hQ:∀ φ β M T H a w,Q T H→RA P cf b N φ β M ⟨T,H⟩ a w→Q' .normal a w) :
    ∀ (l:List Oper) (k:Nat) (T:Tm) (H:List Ob) (φ:Nat→Value) (β:Nat→Nat→Prop) (M:Mem) (a:Act) (w:World),H.length=n→RA P cf b N φ β M ⟨T,H⟩ a w→(∀ s,n0≤s→(∀ j,j<k→s ∉ slotsOf S j)→freeT s T∧freeH s H)→dG P cf N ops S D X n0 n Q k l T H→wpList P ops Q' l a w
  | [],k,T,H,φ,β,M,a,w,hl,hR,hf,h=>wpList_nil (hQ _ _ _ _ _ _ _ h hR)
  | o::l,k,T,H,φ,β,M,a,w,hl,hR,hf,h=>by
    obtain ⟨hd,h⟩:=h
    obtain ⟨v,m,⟨hn1,hn2,h⟩,fr,g1,g2,g3⟩:=gStep_ok (P:=P) (b:=b) (N:=N) hd hfx hl h
    have hag:agree n (Wof D X k) H H:=⟨by omega,by omega,fun _ _=>rfl⟩
    have hnew:∀ s,n0≤s→(∀ j,j<k+1→s ∉ slotsOf S j)→freeT s (T.put o.dst v)∧freeH s (setAll H m):=fun s hs0 hs=>by
      obtain ⟨h5,h6⟩:=hf s hs0 fun j hj=>hs j (by omega)
      have hno:∀ ys,nmsB S D X n0 k ys=true→∀ y∈ys,y.nm≠some s:=fun ys hy y hyy he=>by
        rcases nms_spec hy y hyy s he with h7 | ⟨_,j,h8,h9⟩
        · omega
        · exact hs j (by omega) h9
      refine ⟨fun t => ?_,fun r q hq => ?_⟩
      · cases hd:o.dst with
        | none=>exact h5 t
        | some t' =>
          simp only [Tm.put]
          cases Nat.beq t t' with
          | true=>exact hno _ hn1
          | false=>exact h5 t
      · rcases setAll_mem m H r q hq with h8 | ⟨p,hp,rfl⟩
        · exact h6 r q h8
        · exact hno _ (List.all_eq_true.1 hn2 p hp)
    have hl':(setAll H m).length=n:=by rw [setAll_len,hl]
    refine _root_.Go.wpList_step fun K hK => ?_
    rcases g3 with ⟨rfl,g3⟩ | g3
    · exact op_step (Q:=Q') hR (g3 H hl hag) (K:=K) fun M' a' w' _ hR'=>hK _ _ (dG_list hfx hQ l (k+1) _ _ φ β M' a' w' hl hR' hnew h)
    · obtain ⟨hg,hE⟩:=g3 H hl hag T fun _ _=>rfl
      have hw:Region.wanted o (yielded ops a.tmps)=true:=by simp [Region.wanted,hg]
      rw [if_pos hw]
      refine hE φ β M a w _ _ hR (fun s hs => ?_) fun φ' β' M' a' w' hR'=>hK _ _ (dG_list hfx hQ l (k+1) _ _ φ' β' M' a' w' hl' hR' hnew h)
      obtain ⟨h5,h6,h7,h8⟩:=g2 s hs
      exact hf s h5 fun j hj=>h8 j hj
/-- a region in the text's order. R, S, D, W as awp_anyG has them -/
theorem awp_regG {P:Program} {cf:Cfg} {b:Base} {N id:Nat} {l:List Oper} {Y:St} {Q:Exit→St→Prop} (R:Nat) (S:List (Nat×List Nat)) (D:List Nat) (W:List (Nat×List Nat))
    (h:dG P cf N l.toArray S D W Y.H.length (Y.H.length+R) (fun T H=>Q .normal ⟨T,H⟩) 0 l Y.T (Y.H++gones R)):awp P cf b N (.region id l.toArray false) Q Y:=fun a w ⟨φ,β,M,hR⟩=>by
  obtain ⟨φ',β',hR'⟩:=RA.reserve (φ:=φ) R hR
  have hn:(Y.H++gones R).length=Y.H.length+R:=by rw [List.length_append,gones_len]
  refine wp_region_lit (dG_list hR.fix.1 (fun φ β M T H a w hq hR=>⟨_,hq,φ,β,M,hR⟩) l 0 Y.T _ φ' β' M a w hn hR' (fun s hs _=>⟨fun t=>lt_free hs (hR.lt t),fun i o hi => ?_⟩) h)
  rcases Nat.lt_or_ge i Y.H.length with h' | h'
  · rw [List.getElem?_append_left h'] at hi
    exact ob_free hs (hR.hi.wf i o hi)
  · rw [List.getElem?_append_right h'] at hi
    have:=gones_mem (List.mem_of_getElem? hi)
    subst this
    intro y hy
    simp [obLs] at hy
end Am
end Go.Proofs.YtjblpcgkffhgfaaGreat
