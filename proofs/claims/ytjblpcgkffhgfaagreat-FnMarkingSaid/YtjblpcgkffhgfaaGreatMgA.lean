/- Random marking: adding a probability, on the machine: the program's. Conditions: those that each names. -/
import Derived.Test.YtjblpcgkffhgfaaGreatMgF
import Derived.Test.YtjblpcgkffhgfaaGreatGA2
import Derived.Test.YtjblpcgkffhgfaaGreatMD
import Derived.Test.YtjblpcgkffhgfaaGreatAm18
set_option linter.all false
set_option linter.unusedSimpArgs false
set_option linter.unusedVariables false
namespace Go.Proofs.YtjblpcgkffhgfaaGreat
open Go Go.RowKit Am

/-- the marker's cells -/
def mkC (size:Int) (f:Nat):List Lf:=[.b (.val (.int .i64 size)),.own 1,.own 2,.own 3,.b (.val (.int .i64 (fr7 f).1)),.b (.val (.int .i64 (fr7 f).2)),.b (.val (.bool true))]
def mkO (size:Int) (f:Nat) (M:List Int) (h:HL):List Ob:=[.box (mkC size f),.row 3 (.ints M),.row 24 (.ii (kH h)),.row 40 (.k 2 (oH h))]
set_option maxHeartbeats 4000000 in
theorem add_f (size:Int) (f:Nat) (M:List Int) (h:HL) (x:List Int) (n:Nat) (ho:h.Pairwise fun p q=>lexB p.1 q.1=true) (hl:h.length≤999) (hb:∀ p∈h,p.2+n≤50000) (hn:n≤50000):DoesH Tryz.prog 148 [.lf (.ptr 0 0),.sl (.ints x),frA (fr7 n)] [true] (mkO size f M h++[]) (.tup []) (mkO size f M (gainH h x n)++[]):=by
  have hkl:=kH_len h
  have hol:=oH_len h
  have hat:=atH_le h x
  unfold mkO mkC
  simp only [List.cons_append,List.nil_append]
  refine spec_hB Tryz.func148 rfl Tryz.ntmps148 cfOK (fun _ _=>by kernel_rfl) rfl rfl rfl ?_
  intro M0 w0 S φ0
  rw [Tryz.results148]
  skip
  refine amGo ?_
  ((try refine Or.inl ?_);refine ⟨_,(bsearch_d h x ho (by omega)),.inl rfl,?_⟩;refine amC ?_)
  refine amGo ?_
  refine awp_cond amQ (fun hc => ?_) (fun hc => ?_)
  · have hc':¬ isAt h x:=by simpa using hc
    rw [kH_new hc',oH_new hc']
    (refine amB ?_;refine awp_anyGJ 2 [(9,[5,2]),(17,[6,3]),(20,[0]),(23,[0])] [0,2,3,5,6] [(5,[2,3,5,6]),(13,[2,3,5,6]),(9,[0,3,6]),(17,[0,2,5]),(20,[]),(23,[])] [(9,2,.row 24 (.ii ((kH h).take (atH h x)++[x]++(kH h).drop (atH h x)))),(17,3,.row 40 (.k 2 ((oH h).take (atH h x)++[frM n]++(oH h).drop (atH h x))))] ?_;refine amNJ ?_)
    (refine ⟨callG_t (insA_h (kH h) x (atH h x) (by omega) (by omega)) rfl rfl rfl rfl rfl rfl,?_⟩;refine amSG ?_)
    (refine ⟨callG_t (insB_h (oH h) (frM n) (atH h x) (by omega) (by omega)) rfl rfl rfl rfl rfl rfl,?_⟩;refine amSG ?_)
    (refine awp_mv 2 5 rfl rfl (by decide) rfl rfl ?_;simp only [xm,simprocAttr])
    (refine awp_mv 3 6 rfl rfl (by decide) rfl rfl ?_;simp only [xm,simprocAttr])
    refine amGo ?_
    (simp only [ends_normal,ends_ret];exact retH_0 [0,1,2,3] rfl ⟨rfl,rfl,rfl,rfl,trivial⟩ rfl rfl rfl)
  · have hc':isAt h x:=by simpa using hc
    have hat':=hc'.1
    have hoa:=oH_at hat'
    rw [kH_in hc',oH_in hc']
    generalize hm:(h.getD (atH h x) ([],0)).2=m at hoa
    have hmb:m+n≤50000:=by rw [← hm,getD_inL hat'];exact hb _ (List.getElem_mem hat')
    have e3:((atH h x:Nat):Int).toNat=atH h x:=by omega
    (refine amB ?_;refine awp_anyM [5] 12 [] (by kernel_rfl) (by kernel_rfl) (by kernel_rfl) (by kernel_rfl) (by kernel_rfl) ?_;refine amM ?_)
    rw [hoa,show (frM m).getD 0 0=(fr7 m).1 from rfl,show (frM m).getD 1 0=(fr7 m).2 from rfl]
    ((try refine Or.inl ?_);refine ⟨_,(addF_d m n (by omega) (by omega)),amF,?_⟩;refine amC ?_)
    (refine amB ?_;refine awp_anyG 0 [(15,[3]),(18,[0])] [0,3] [(3,[3]),(10,[3]),(14,[0]),(15,[0]),(18,[])] ?_;refine amNG ?_)
    (simp only [ends_normal,ends_ret];exact retH_0 [0,1,2,3] rfl ⟨rfl,rfl,rfl,rfl,trivial⟩ rfl rfl rfl)
set_option maxHeartbeats 4000000 in
theorem add_o (size:Int) (f:Nat) (M:List Int) (h:HL) (x:List Int) (n:Nat) (ho:h.Pairwise fun p q=>lexB p.1 q.1=true) (hl:h.length≤999) (hb:∀ p∈h,p.2+n≤50000) (hn:n≤50000):DoesH Tryz.prog 148 [.lf (.ptr 0 0),.lf (.own 4),frA (fr7 n)] [true] (mkO size f M h++[.row 3 (.ints x)]) (.tup []) (mkO size f M (gainH h x n)++[.gone]):=by
  have hkl:=kH_len h
  have hol:=oH_len h
  have hat:=atH_le h x
  unfold mkO mkC
  simp only [List.cons_append,List.nil_append]
  refine spec_hB Tryz.func148 rfl Tryz.ntmps148 cfOK (fun _ _=>by kernel_rfl) rfl rfl rfl ?_
  intro M0 w0 S φ0
  rw [Tryz.results148]
  (refine amG1 ?_;(refine awp_frz 4 rfl ?_;simp only [xz,simprocAttr]))
  refine amGo ?_
  ((try refine Or.inl ?_);refine ⟨_,(bsearch_d h x ho (by omega)),.inl rfl,?_⟩;refine amC ?_)
  refine amGo ?_
  refine awp_cond amQ (fun hc => ?_) (fun hc => ?_)
  · have hc':¬ isAt h x:=by simpa using hc
    rw [kH_new hc',oH_new hc']
    (refine amB ?_;refine awp_anyGJ 2 [(9,[6,2]),(17,[7,3]),(20,[0]),(23,[0])] [0,2,3,6,7] [(5,[2,3,6,7]),(13,[2,3,6,7]),(9,[0,3,7]),(17,[0,2,6]),(20,[]),(23,[])] [(9,2,.row 24 (.ii ((kH h).take (atH h x)++[x]++(kH h).drop (atH h x)))),(17,3,.row 40 (.k 2 ((oH h).take (atH h x)++[frM n]++(oH h).drop (atH h x))))] ?_;refine amNJ ?_)
    (refine ⟨callG_t (insA_h (kH h) x (atH h x) (by omega) (by omega)) rfl rfl rfl rfl rfl rfl,?_⟩;refine amSG ?_)
    (refine ⟨callG_t (insB_h (oH h) (frM n) (atH h x) (by omega) (by omega)) rfl rfl rfl rfl rfl rfl,?_⟩;refine amSG ?_)
    (refine awp_mv 2 6 rfl rfl (by decide) rfl rfl ?_;simp only [xm,simprocAttr])
    (refine awp_mv 3 7 rfl rfl (by decide) rfl rfl ?_;simp only [xm,simprocAttr])
    refine amGo ?_
    (simp only [ends_normal,ends_ret];exact retH_0 [0,1,2,3,4] rfl ⟨rfl,rfl,rfl,rfl,rfl,trivial⟩ rfl rfl rfl)
  · have hc':isAt h x:=by simpa using hc
    have hat':=hc'.1
    have hoa:=oH_at hat'
    rw [kH_in hc',oH_in hc']
    generalize hm:(h.getD (atH h x) ([],0)).2=m at hoa
    have hmb:m+n≤50000:=by rw [← hm,getD_inL hat'];exact hb _ (List.getElem_mem hat')
    have e3:((atH h x:Nat):Int).toNat=atH h x:=by omega
    (refine amB ?_;refine awp_anyM [6] 12 [] (by kernel_rfl) (by kernel_rfl) (by kernel_rfl) (by kernel_rfl) (by kernel_rfl) ?_;refine amM ?_)
    rw [hoa,show (frM m).getD 0 0=(fr7 m).1 from rfl,show (frM m).getD 1 0=(fr7 m).2 from rfl]
    ((try refine Or.inl ?_);refine ⟨_,(addF_d m n (by omega) (by omega)),amF,?_⟩;refine amC ?_)
    (refine amB ?_;refine awp_anyG 0 [(15,[3]),(18,[0])] [0,3] [(3,[3]),(10,[3]),(14,[0]),(15,[0]),(18,[])] ?_;refine amNG ?_)
    (simp only [ends_normal,ends_ret];exact retH_0 [0,1,2,3,4] rfl ⟨rfl,rfl,rfl,rfl,rfl,trivial⟩ rfl rfl rfl)
end Go.Proofs.YtjblpcgkffhgfaaGreat
