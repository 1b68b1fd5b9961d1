/- The program's types, as the abstract machine wants them. Conditions: none. -/
import Derived.Test.YtkcelmnbfbehbaaProg
import Derived.Test.YtkcelmnbfbehbaaMC
set_option linter.all false
set_option linter.unusedSimpArgs false
set_option linter.unusedVariables false
namespace Go.Proofs.Ytkcelmnbfbehbaa
open Go Go.RowKit Am

abbrev Row:=Nat×Ty×Nat×Nat×List Value
def findR:List Row→Nat→Option (Ty×Nat×Nat×List Value)
  | [],_=>none
  | (s,r)::L,t=>bif Nat.beq t s then some r else findR L t
def cfOf (L:List Row) (E E2:List Nat):Cfg where
  eqa t:=E.contains t
  eqs t:=E2.contains t
  ty t:=match findR L t with | some r=>r.1 | none => .bad
  sz t:=match findR L t with | some r=>r.2.1 | none=>0
  bytes t:=match findR L t with | some r=>r.2.2.1 | none=>0
  zero t:=match findR L t with | some r=>r.2.2.2 | none=>[]
def rowOK (P:Program) (r:Row):Prop:=r.2.1.is P r.1∧∃ i,P.info? r.1=some i∧i.size=r.2.2.1∧i.bytes=r.2.2.2.1∧∃ z,i.zero=some z∧z.cells.toList=r.2.2.2.2∧z.cells.size=r.2.2.1
def allR (P:Program):List Row→Prop
  | []=>True
  | r::L=>rowOK P r∧allR P L
theorem findR_ok {P:Program}:∀ {L:List Row} {t:Nat} {r:Ty×Nat×Nat×List Value},allR P L→findR L t=some r→rowOK P (t,r)
  | [],_,_,_,h=>by cases h
  | (s,r')::L,t,r,hL,h=>by
    simp only [findR] at h
    cases e:Nat.beq t s with
    | true =>
      rw [e] at h
      cases h
      rw [Nat.eq_of_beq_eq_true e]
      exact hL.1
    | false =>
      rw [e] at h
      exact findR_ok hL.2 h
def allE (P:Program):List Nat→Prop
  | []=>True
  | t::E=>P.eqGuardType P.depth t=false∧allE P E
theorem allE_mem {P:Program}:∀ {E:List Nat},allE P E→∀ t∈E,P.eqGuardType P.depth t=false
  | [],_,t,ht=>by simp at ht
  | u::E,h,t,ht=>by
    rcases List.mem_cons.1 ht with rfl | ht
    · exact h.1
    · exact allE_mem h.2 t ht
/-- structs whose fields are two numbers -/
def allS (P:Program) (L:List Row):List Nat→Prop
  | []=>True
  | t :: E => ((match findR L t with | some r => r.2.1 | none => 0) = 2 ∧ P.eqGuardType P.depth t = false ∧ P.stoodInHeld t = false ∧ ∃ f0 f1 : Field, P.underlying t = some (.struct #[f0, f1]) ∧ f0.name ≠ "_" ∧ f1.name ≠ "_" ∧ f0.offset = 0 ∧ f1.offset = 1 ∧ P.underlying f0.type = some (.int .i64) ∧ P.underlying f1.type = some (.int .i64)) ∧ allS P L E
theorem allS_mem {P:Program} {L:List Row}:∀ {E:List Nat},allS P L E→∀ t∈E,P.eqGuardType P.depth t=false∧∀ (w:World) (xs ys:List Int),xs.length=(match findR L t with | some r=>r.2.1 | none=>0)→ys.length=(match findR L t with | some r=>r.2.1 | none=>0)→(Op.equal t (.agg (xs.map (Value.int .i64)).toArray) (.agg (ys.map (Value.int .i64)).toArray)).run P w = .ok (decide (xs=ys)) w
  | [],_,t,ht=>by simp at ht
  | u::E,h,t,ht=>by
    rcases List.mem_cons.1 ht with rfl | ht
    · obtain ⟨⟨h0,h1,h2,f0,f1,h3,h4,h5,h6,h7,h8,h9⟩,_⟩:=h
      refine ⟨h1,fun w xs ys la lb => ?_⟩
      rw [h0] at la lb
      exact eqS2 h3 h4 h5 h6 h7 h8 h9 h2 w xs ys la lb
    · exact allS_mem h.2 t ht
theorem cfOf_ok {P:Program} {L:List Row} {E E2:List Nat} (h:allR P L) (hE:allE P E) (hS:allS P L E2):CfgOK P (cfOf L E E2):=⟨fun t=>by
    show Ty.is P t (match findR L t with | some r=>r.1 | none => .bad)
    cases e:findR L t with
    | none=>trivial
    | some r=>exact (findR_ok h e).1,
  fun t hz=>by
    have hz':(match findR L t with | some r=>r.2.1 | none=>0)≠0:=hz
    show ∃ i,P.info? t=some i∧i.size=(match findR L t with | some r=>r.2.1 | none=>0)∧i.bytes=(match findR L t with | some r=>r.2.2.1 | none=>0)∧∃ z,i.zero=some z∧z.cells.toList=(match findR L t with | some r=>r.2.2.2 | none=>[])∧z.cells.size=(match findR L t with | some r=>r.2.1 | none=>0)
    cases e:findR L t with
    | none=>rw [e] at hz';exact (hz' rfl).elim
    | some r=>exact (findR_ok h e).2,
  fun t ht=>allE_mem hE t (by simpa [cfOf] using ht),fun t ht=>allS_mem hS t (by simpa [cfOf] using ht)⟩
theorem info_is {P:Program} {t sz by_:Nat} {z:Value} {l:List Value} (h:(P.info? t).map (fun i=>(i.size,i.bytes,i.zero))=some (sz,by_,some z)) (hl:z.cells.toList=l) (hs:z.cells.size=sz) :
    ∃ i,P.info? t=some i∧i.size=sz∧i.bytes=by_∧∃ z,i.zero=some z∧z.cells.toList=l∧z.cells.size=sz:=by
  simp only [Option.map_eq_some_iff,Prod.mk.injEq] at h
  obtain ⟨i,h1,h2,h3,h4⟩:=h
  exact ⟨i,h1,h2,h3,z,h4,hl,hs⟩
def structB (P:Program) (t:Nat) (fs:List (Nat×Nat)):Bool:=match P.underlying t with
  | some (.struct F)=>(F.toList.map fun f=>(f.offset,f.type)) == fs && fs.all fun p=>match P.info? p.2 with | some j => !(j.size == 0) | none=>false
  | _=>false
theorem struct_is {P:Program} {t:Nat} {fs:List (Nat×Nat)} (h:structB P t fs=true):Ty.is P t (.struct fs):=by
  unfold structB at h
  split at h
  · rename_i F hF
    simp only [Bool.and_eq_true,beq_iff_eq,List.all_eq_true] at h
    obtain ⟨h1,h2⟩:=h
    refine ⟨F,hF,by rw [← h1];simp,fun i off t' hi => ?_⟩
    have h3:=h2 _ (List.mem_of_getElem? hi)
    rw [← h1,List.getElem?_map] at hi
    simp only [Option.map_eq_some_iff,Array.getElem?_toList,Prod.mk.injEq] at hi
    obtain ⟨f,h4,h5,h6⟩:=hi
    refine ⟨f,h4,h5,h6,?_⟩
    split at h3
    · rename_i j hj
      exact ⟨j,hj,by simpa using h3⟩
    · cases h3
  · cases h
def plainB (P:Program) (t:Nat):Bool:=match P.underlying t with
  | some (.struct _)=>false
  | some (.array _ _)=>false
  | some _=>true
  | none=>false
theorem plain_is {P:Program} {t:Nat} (h:plainB P t=true):Ty.is P t .plain:=by
  unfold plainB at h
  split at h
  · cases h
  · cases h
  · rename_i d h1 h2 hd
    exact ⟨d,hd,fun F e=>h1 F e,fun n e' e=>h2 n e' e⟩
  · cases h
theorem int_is {P:Program} {t:Nat} (h:P.underlying t=some (.int .i64)):Ty.is P t .int:=h
theorem bool_is {P:Program} {t:Nat} (h:P.underlying t=some .bool):Ty.is P t .bool:=h
theorem slice_is {P:Program} {t e:Nat} (h:P.underlying t=some (.slice e)):Ty.is P t (.slice e):=h
theorem arr_is {P:Program} {t n e:Nat} (h:P.underlying t=some (.array n e)):Ty.is P t (.arr n e):=h
def rows:List Row:=[
  (1,.plain,1,8,[(.nilFunc)]),
  (2,.int,1,8,[(.int .i64 0)]),
  (3,.int,1,8,[(.int .i64 0)]),
  (4,.bool,1,1,[(.bool false)]),
  (5,.plain,1,1,[(.int .u8 0)]),
  (6,.plain,1,1,[(.int .u8 0)]),
  (7,(.struct [(0,2),(1,3),(2,4),(3,6)]),4,24,[(.int .i64 0),(.int .i64 0),(.bool false),(.int .u8 0)]),
  (8,(.struct [(0,2),(1,3),(2,4),(3,6)]),4,24,[(.int .i64 0),(.int .i64 0),(.bool false),(.int .u8 0)]),
  (9,.plain,1,16,[(.string ⟨#[]⟩)]),
  (10,.plain,1,16,[(.string ⟨#[]⟩)]),
  (11,.plain,1,16,[(.string ⟨#[]⟩)]),
  (12,.plain,1,8,[(.int .u64 0)]),
  (13,(.struct [(0,9),(1,12)]),2,24,[(.string ⟨#[]⟩),(.int .u64 0)]),
  (14,(.struct [(0,9),(1,12)]),2,24,[(.string ⟨#[]⟩),(.int .u64 0)]),
  (15,.plain,1,8,[(.pointer none)]),
  (16,.plain,1,8,[(.pointer none)]),
  (17,.plain,1,8,[(.pointer none)]),
  (18,(.struct [(0,17)]),1,8,[(.pointer none)]),
  (19,(.struct [(0,17)]),1,8,[(.pointer none)]),
  (21,.plain,1,4,[(.int .i32 0)]),
  (22,(.slice 28),1,24,[(.slice none 0 0)]),
  (23,(.struct [(0,22),(1,22)]),2,48,[(.slice none 0 0),(.slice none 0 0)]),
  (24,(.struct [(0,22),(1,22)]),2,48,[(.slice none 0 0),(.slice none 0 0)]),
  (25,(.struct [(0,3),(1,3)]),2,16,[(.int .i64 0),(.int .i64 0)]),
  (26,(.struct [(0,3),(1,3)]),2,16,[(.int .i64 0),(.int .i64 0)]),
  (27,.plain,1,8,[(.nilFunc)]),
  (28,(.slice 3),1,24,[(.slice none 0 0)]),
  (30,.plain,1,8,[(.nilFunc)]),
  (31,(.struct [(0,22),(1,22)]),2,48,[(.slice none 0 0),(.slice none 0 0)]),
  (32,.plain,1,8,[(.nilFunc)]),
  (33,(.struct [(0,3),(1,3)]),2,16,[(.int .i64 0),(.int .i64 0)]),
  (34,.plain,1,8,[(.nilFunc)]),
  (35,.plain,1,8,[(.nilFunc)]),
  (36,.plain,1,8,[(.nilFunc)]),
  (37,.plain,1,8,[(.nilFunc)]),
  (38,.plain,1,8,[(.nilFunc)]),
  (39,.plain,1,8,[(.nilFunc)]),
  (41,.plain,1,8,[(.nilFunc)]),
  (42,.plain,1,8,[(.nilFunc)]),
  (43,.plain,1,8,[(.nilFunc)]),
  (44,.plain,1,8,[(.nilFunc)]),
  (45,(.slice 74),1,24,[(.slice none 0 0)]),
  (46,(.slice 103),1,24,[(.slice none 0 0)]),
  (47,(.struct [(0,45),(1,46),(2,4)]),3,56,[(.slice none 0 0),(.slice none 0 0),(.bool false)]),
  (48,(.struct [(0,45),(1,46),(2,4)]),3,56,[(.slice none 0 0),(.slice none 0 0),(.bool false)]),
  (50,.plain,1,8,[(.nilFunc)]),
  (51,.plain,1,8,[(.nilFunc)]),
  (52,.plain,1,8,[(.nilFunc)]),
  (53,(.struct [(0,3),(1,3)]),2,16,[(.int .i64 0),(.int .i64 0)]),
  (54,(.struct [(0,3),(1,3)]),2,16,[(.int .i64 0),(.int .i64 0)]),
  (55,.plain,1,8,[(.nilFunc)]),
  (56,.plain,1,8,[(.nilFunc)]),
  (57,.plain,1,8,[(.nilFunc)]),
  (58,.plain,1,8,[(.pointer none)]),
  (60,.plain,1,8,[(.nilFunc)]),
  (61,.plain,1,8,[(.nilFunc)]),
  (62,.plain,1,8,[(.nilFunc)]),
  (63,.plain,1,8,[(.nilFunc)]),
  (64,.plain,1,8,[(.nilFunc)]),
  (65,.plain,1,8,[(.nilFunc)]),
  (66,.plain,1,8,[(.nilFunc)]),
  (67,.plain,1,8,[(.nilFunc)]),
  (68,(.slice 111),1,24,[(.slice none 0 0)]),
  (69,.plain,1,8,[(.nilFunc)]),
  (70,.plain,1,8,[(.nilFunc)]),
  (71,.plain,1,8,[(.nilFunc)]),
  (73,.plain,1,8,[(.nilFunc)]),
  (74,(.arr 2 3),2,16,[(.int .i64 0),(.int .i64 0)]),
  (75,(.slice 78),1,24,[(.slice none 0 0)]),
  (76,(.struct [(0,45),(1,75)]),2,48,[(.slice none 0 0),(.slice none 0 0)]),
  (77,(.struct [(0,45),(1,75)]),2,48,[(.slice none 0 0),(.slice none 0 0)]),
  (78,(.slice 79),1,24,[(.slice none 0 0)]),
  (79,(.slice 86),1,24,[(.slice none 0 0)]),
  (80,.plain,1,8,[(.nilFunc)]),
  (81,.plain,1,8,[(.nilFunc)]),
  (82,.plain,1,8,[(.nilFunc)]),
  (83,(.struct [(0,3),(1,3),(2,3),(3,3)]),4,32,[(.int .i64 0),(.int .i64 0),(.int .i64 0),(.int .i64 0)]),
  (84,(.struct [(0,3),(1,3),(2,3),(3,3)]),4,32,[(.int .i64 0),(.int .i64 0),(.int .i64 0),(.int .i64 0)]),
  (85,(.struct [(0,84),(4,3),(5,3)]),6,48,[(.int .i64 0),(.int .i64 0),(.int .i64 0),(.int .i64 0),(.int .i64 0),(.int .i64 0)]),
  (86,(.struct [(0,84),(4,3),(5,3)]),6,48,[(.int .i64 0),(.int .i64 0),(.int .i64 0),(.int .i64 0),(.int .i64 0),(.int .i64 0)]),
  (88,.plain,1,8,[(.pointer none)]),
  (89,.plain,1,8,[(.nilFunc)]),
  (90,.plain,1,8,[(.nilFunc)]),
  (91,.plain,1,8,[(.nilFunc)]),
  (92,.plain,1,8,[(.nilFunc)]),
  (93,.plain,1,8,[(.nilFunc)]),
  (94,.plain,1,8,[(.nilFunc)]),
  (95,(.slice 84),1,24,[(.slice none 0 0)]),
  (97,.plain,1,8,[(.nilFunc)]),
  (98,.plain,1,8,[(.nilFunc)]),
  (99,.plain,1,8,[(.nilFunc)]),
  (100,(.struct [(0,22),(1,22),(2,22),(3,4)]),4,80,[(.slice none 0 0),(.slice none 0 0),(.slice none 0 0),(.bool false)]),
  (101,(.struct [(0,22),(1,22),(2,22),(3,4)]),4,80,[(.slice none 0 0),(.slice none 0 0),(.slice none 0 0),(.bool false)]),
  (102,.plain,1,8,[(.nilFunc)]),
  (103,(.slice 104),1,24,[(.slice none 0 0)]),
  (104,(.slice 106),1,24,[(.slice none 0 0)]),
  (105,(.struct [(0,3),(1,3),(2,3),(3,3)]),4,32,[(.int .i64 0),(.int .i64 0),(.int .i64 0),(.int .i64 0)]),
  (106,(.struct [(0,3),(1,3),(2,3),(3,3)]),4,32,[(.int .i64 0),(.int .i64 0),(.int .i64 0),(.int .i64 0)]),
  (107,.plain,1,8,[(.nilFunc)]),
  (108,.plain,1,8,[(.nilFunc)]),
  (109,.plain,1,8,[(.nilFunc)]),
  (110,.plain,1,8,[(.nilFunc)]),
  (111,(.slice 4),1,24,[(.slice none 0 0)]),
  (112,.plain,1,8,[(.nilFunc)]),
  (113,.plain,1,8,[(.nilFunc)]),
  (114,.plain,1,8,[(.nilFunc)]),
  (115,.plain,1,8,[(.nilFunc)]),
  (116,.plain,1,8,[(.nilFunc)]),
  (117,(.slice 121),1,24,[(.slice none 0 0)]),
  (118,(.struct [(0,111),(1,117)]),2,48,[(.slice none 0 0),(.slice none 0 0)]),
  (119,(.struct [(0,111),(1,117)]),2,48,[(.slice none 0 0),(.slice none 0 0)]),
  (120,.plain,1,8,[(.nilFunc)]),
  (121,(.slice 123),1,24,[(.slice none 0 0)]),
  (122,(.struct [(0,3),(1,3)]),2,16,[(.int .i64 0),(.int .i64 0)]),
  (123,(.struct [(0,3),(1,3)]),2,16,[(.int .i64 0),(.int .i64 0)]),
  (124,.plain,1,8,[(.nilFunc)]),
  (125,.plain,1,8,[(.nilFunc)]),
  (126,.plain,1,8,[(.nilFunc)]),
  (127,.plain,1,8,[(.nilFunc)]),
  (128,.plain,1,8,[(.nilFunc)]),
  (129,.plain,1,8,[(.nilFunc)]),
  (130,(.struct [(0,22)]),1,24,[(.slice none 0 0)]),
  (131,(.struct [(0,22)]),1,24,[(.slice none 0 0)]),
  (132,.plain,1,8,[(.nilFunc)]),
  (133,.plain,1,8,[(.nilFunc)]),
  (134,.plain,1,8,[(.nilFunc)]),
  (135,.plain,1,8,[(.nilFunc)]),
  (136,.plain,1,8,[(.nilFunc)]),
  (137,.plain,1,8,[(.nilFunc)]),
  (138,.plain,1,8,[(.nilFunc)]),
  (139,.plain,1,8,[(.nilFunc)]),
  (140,.plain,1,8,[(.int .u64 0)]),
  (142,.plain,1,8,[(.nilFunc)]),
  (143,(.slice 145),1,24,[(.slice none 0 0)]),
  (144,(.struct [(0,4),(1,3),(2,3)]),3,24,[(.bool false),(.int .i64 0),(.int .i64 0)]),
  (145,(.struct [(0,4),(1,3),(2,3)]),3,24,[(.bool false),(.int .i64 0),(.int .i64 0)]),
  (146,.plain,1,8,[(.nilFunc)]),
  (147,.plain,1,8,[(.nilFunc)]),
  (148,.plain,1,8,[(.nilFunc)]),
  (149,.plain,1,8,[(.nilFunc)]),
  (150,.plain,1,8,[(.nilFunc)]),
  (151,.plain,1,8,[(.nilFunc)]),
  (152,.plain,1,4,[(.int .u32 0)]),
  (154,.plain,1,8,[(.nilFunc)]),
  (155,.plain,1,8,[(.int .u64 0)]),
  (157,.plain,1,8,[(.nilFunc)]),
  (158,.plain,1,8,[(.nilFunc)]),
  (159,.plain,1,8,[(.nilFunc)]),
  (160,(.struct [(0,17),(1,17),(2,17),(3,9)]),4,40,[(.pointer none),(.pointer none),(.pointer none),(.string ⟨#[]⟩)]),
  (161,(.struct [(0,17),(1,17),(2,17),(3,9)]),4,40,[(.pointer none),(.pointer none),(.pointer none),(.string ⟨#[]⟩)]),
  (165,.plain,1,8,[(.nilFunc)]),
  (166,.plain,1,1,[(.int .u8 0)]),
  (167,.plain,1,1,[(.int .u8 0)]),
  (168,.plain,1,8,[(.nilFunc)]),
  (169,.plain,1,8,[(.pointer none)]),
  (170,.plain,1,4,[(.int .i32 0)]),
  (171,.plain,1,4,[(.int .i32 0)]),
  (172,(.struct [(0,12),(1,12),(2,152),(3,166),(4,5),(5,5),(6,167),(7,168),(8,169),(9,170),(10,171)]),11,48,[(.int .u64 0),(.int .u64 0),(.int .u32 0),(.int .u8 0),(.int .u8 0),(.int .u8 0),(.int .u8 0),(.nilFunc),(.pointer none),(.int .i32 0),(.int .i32 0)]),
  (173,(.struct [(0,12),(1,12),(2,152),(3,166),(4,5),(5,5),(6,167),(7,168),(8,169),(9,170),(10,171)]),11,48,[(.int .u64 0),(.int .u64 0),(.int .u32 0),(.int .u8 0),(.int .u8 0),(.int .u8 0),(.int .u8 0),(.nilFunc),(.pointer none),(.int .i32 0),(.int .i32 0)])]
theorem row1:rowOK Try.prog (1,.plain,1,8,[(.nilFunc)]):=⟨plain_is (by kernel_rfl),info_is (z:=(.nilFunc)) (by kernel_rfl) rfl rfl⟩
theorem row2:rowOK Try.prog (2,.int,1,8,[(.int .i64 0)]):=⟨int_is (by kernel_rfl),info_is (z:=(.int .i64 0)) (by kernel_rfl) rfl rfl⟩
theorem row3:rowOK Try.prog (3,.int,1,8,[(.int .i64 0)]):=⟨int_is (by kernel_rfl),info_is (z:=(.int .i64 0)) (by kernel_rfl) rfl rfl⟩
theorem row4:rowOK Try.prog (4,.bool,1,1,[(.bool false)]):=⟨bool_is (by kernel_rfl),info_is (z:=(.bool false)) (by kernel_rfl) rfl rfl⟩
theorem row5:rowOK Try.prog (5,.plain,1,1,[(.int .u8 0)]):=⟨plain_is (by kernel_rfl),info_is (z:=(.int .u8 0)) (by kernel_rfl) rfl rfl⟩
theorem row6:rowOK Try.prog (6,.plain,1,1,[(.int .u8 0)]):=⟨plain_is (by kernel_rfl),info_is (z:=(.int .u8 0)) (by kernel_rfl) rfl rfl⟩
theorem row7:rowOK Try.prog (7,(.struct [(0,2),(1,3),(2,4),(3,6)]),4,24,[(.int .i64 0),(.int .i64 0),(.bool false),(.int .u8 0)]):=⟨struct_is (by kernel_rfl),info_is (z:=(.agg #[(.int .i64 0),(.int .i64 0),(.bool false),(.int .u8 0)])) (by kernel_rfl) rfl rfl⟩
theorem row8:rowOK Try.prog (8,(.struct [(0,2),(1,3),(2,4),(3,6)]),4,24,[(.int .i64 0),(.int .i64 0),(.bool false),(.int .u8 0)]):=⟨struct_is (by kernel_rfl),info_is (z:=(.agg #[(.int .i64 0),(.int .i64 0),(.bool false),(.int .u8 0)])) (by kernel_rfl) rfl rfl⟩
theorem row9:rowOK Try.prog (9,.plain,1,16,[(.string ⟨#[]⟩)]):=⟨plain_is (by kernel_rfl),info_is (z:=(.string ⟨#[]⟩)) (by kernel_rfl) rfl rfl⟩
theorem row10:rowOK Try.prog (10,.plain,1,16,[(.string ⟨#[]⟩)]):=⟨plain_is (by kernel_rfl),info_is (z:=(.string ⟨#[]⟩)) (by kernel_rfl) rfl rfl⟩
theorem row11:rowOK Try.prog (11,.plain,1,16,[(.string ⟨#[]⟩)]):=⟨plain_is (by kernel_rfl),info_is (z:=(.string ⟨#[]⟩)) (by kernel_rfl) rfl rfl⟩
theorem row12:rowOK Try.prog (12,.plain,1,8,[(.int .u64 0)]):=⟨plain_is (by kernel_rfl),info_is (z:=(.int .u64 0)) (by kernel_rfl) rfl rfl⟩
theorem row13:rowOK Try.prog (13,(.struct [(0,9),(1,12)]),2,24,[(.string ⟨#[]⟩),(.int .u64 0)]):=⟨struct_is (by kernel_rfl),info_is (z:=(.agg #[(.string ⟨#[]⟩),(.int .u64 0)])) (by kernel_rfl) rfl rfl⟩
theorem row14:rowOK Try.prog (14,(.struct [(0,9),(1,12)]),2,24,[(.string ⟨#[]⟩),(.int .u64 0)]):=⟨struct_is (by kernel_rfl),info_is (z:=(.agg #[(.string ⟨#[]⟩),(.int .u64 0)])) (by kernel_rfl) rfl rfl⟩
theorem row15:rowOK Try.prog (15,.plain,1,8,[(.pointer none)]):=⟨plain_is (by kernel_rfl),info_is (z:=(.pointer none)) (by kernel_rfl) rfl rfl⟩
theorem row16:rowOK Try.prog (16,.plain,1,8,[(.pointer none)]):=⟨plain_is (by kernel_rfl),info_is (z:=(.pointer none)) (by kernel_rfl) rfl rfl⟩
theorem row17:rowOK Try.prog (17,.plain,1,8,[(.pointer none)]):=⟨plain_is (by kernel_rfl),info_is (z:=(.pointer none)) (by kernel_rfl) rfl rfl⟩
theorem row18:rowOK Try.prog (18,(.struct [(0,17)]),1,8,[(.pointer none)]):=⟨struct_is (by kernel_rfl),info_is (z:=(.agg #[(.pointer none)])) (by kernel_rfl) rfl rfl⟩
theorem row19:rowOK Try.prog (19,(.struct [(0,17)]),1,8,[(.pointer none)]):=⟨struct_is (by kernel_rfl),info_is (z:=(.agg #[(.pointer none)])) (by kernel_rfl) rfl rfl⟩
theorem row21:rowOK Try.prog (21,.plain,1,4,[(.int .i32 0)]):=⟨plain_is (by kernel_rfl),info_is (z:=(.int .i32 0)) (by kernel_rfl) rfl rfl⟩
theorem row22:rowOK Try.prog (22,(.slice 28),1,24,[(.slice none 0 0)]):=⟨slice_is (by kernel_rfl),info_is (z:=(.slice none 0 0)) (by kernel_rfl) rfl rfl⟩
theorem row23:rowOK Try.prog (23,(.struct [(0,22),(1,22)]),2,48,[(.slice none 0 0),(.slice none 0 0)]):=⟨struct_is (by kernel_rfl),info_is (z:=(.agg #[(.slice none 0 0),(.slice none 0 0)])) (by kernel_rfl) rfl rfl⟩
theorem row24:rowOK Try.prog (24,(.struct [(0,22),(1,22)]),2,48,[(.slice none 0 0),(.slice none 0 0)]):=⟨struct_is (by kernel_rfl),info_is (z:=(.agg #[(.slice none 0 0),(.slice none 0 0)])) (by kernel_rfl) rfl rfl⟩
theorem row25:rowOK Try.prog (25,(.struct [(0,3),(1,3)]),2,16,[(.int .i64 0),(.int .i64 0)]):=⟨struct_is (by kernel_rfl),info_is (z:=(.agg #[(.int .i64 0),(.int .i64 0)])) (by kernel_rfl) rfl rfl⟩
theorem row26:rowOK Try.prog (26,(.struct [(0,3),(1,3)]),2,16,[(.int .i64 0),(.int .i64 0)]):=⟨struct_is (by kernel_rfl),info_is (z:=(.agg #[(.int .i64 0),(.int .i64 0)])) (by kernel_rfl) rfl rfl⟩
theorem row27:rowOK Try.prog (27,.plain,1,8,[(.nilFunc)]):=⟨plain_is (by kernel_rfl),info_is (z:=(.nilFunc)) (by kernel_rfl) rfl rfl⟩
theorem row28:rowOK Try.prog (28,(.slice 3),1,24,[(.slice none 0 0)]):=⟨slice_is (by kernel_rfl),info_is (z:=(.slice none 0 0)) (by kernel_rfl) rfl rfl⟩
theorem row30:rowOK Try.prog (30,.plain,1,8,[(.nilFunc)]):=⟨plain_is (by kernel_rfl),info_is (z:=(.nilFunc)) (by kernel_rfl) rfl rfl⟩
theorem row31:rowOK Try.prog (31,(.struct [(0,22),(1,22)]),2,48,[(.slice none 0 0),(.slice none 0 0)]):=⟨struct_is (by kernel_rfl),info_is (z:=(.agg #[(.slice none 0 0),(.slice none 0 0)])) (by kernel_rfl) rfl rfl⟩
theorem row32:rowOK Try.prog (32,.plain,1,8,[(.nilFunc)]):=⟨plain_is (by kernel_rfl),info_is (z:=(.nilFunc)) (by kernel_rfl) rfl rfl⟩
theorem row33:rowOK Try.prog (33,(.struct [(0,3),(1,3)]),2,16,[(.int .i64 0),(.int .i64 0)]):=⟨struct_is (by kernel_rfl),info_is (z:=(.agg #[(.int .i64 0),(.int .i64 0)])) (by kernel_rfl) rfl rfl⟩
theorem row34:rowOK Try.prog (34,.plain,1,8,[(.nilFunc)]):=⟨plain_is (by kernel_rfl),info_is (z:=(.nilFunc)) (by kernel_rfl) rfl rfl⟩
theorem row35:rowOK Try.prog (35,.plain,1,8,[(.nilFunc)]):=⟨plain_is (by kernel_rfl),info_is (z:=(.nilFunc)) (by kernel_rfl) rfl rfl⟩
theorem row36:rowOK Try.prog (36,.plain,1,8,[(.nilFunc)]):=⟨plain_is (by kernel_rfl),info_is (z:=(.nilFunc)) (by kernel_rfl) rfl rfl⟩
theorem row37:rowOK Try.prog (37,.plain,1,8,[(.nilFunc)]):=⟨plain_is (by kernel_rfl),info_is (z:=(.nilFunc)) (by kernel_rfl) rfl rfl⟩
theorem row38:rowOK Try.prog (38,.plain,1,8,[(.nilFunc)]):=⟨plain_is (by kernel_rfl),info_is (z:=(.nilFunc)) (by kernel_rfl) rfl rfl⟩
theorem row39:rowOK Try.prog (39,.plain,1,8,[(.nilFunc)]):=⟨plain_is (by kernel_rfl),info_is (z:=(.nilFunc)) (by kernel_rfl) rfl rfl⟩
theorem row41:rowOK Try.prog (41,.plain,1,8,[(.nilFunc)]):=⟨plain_is (by kernel_rfl),info_is (z:=(.nilFunc)) (by kernel_rfl) rfl rfl⟩
theorem row42:rowOK Try.prog (42,.plain,1,8,[(.nilFunc)]):=⟨plain_is (by kernel_rfl),info_is (z:=(.nilFunc)) (by kernel_rfl) rfl rfl⟩
theorem row43:rowOK Try.prog (43,.plain,1,8,[(.nilFunc)]):=⟨plain_is (by kernel_rfl),info_is (z:=(.nilFunc)) (by kernel_rfl) rfl rfl⟩
theorem row44:rowOK Try.prog (44,.plain,1,8,[(.nilFunc)]):=⟨plain_is (by kernel_rfl),info_is (z:=(.nilFunc)) (by kernel_rfl) rfl rfl⟩
theorem row45:rowOK Try.prog (45,(.slice 74),1,24,[(.slice none 0 0)]):=⟨slice_is (by kernel_rfl),info_is (z:=(.slice none 0 0)) (by kernel_rfl) rfl rfl⟩
theorem row46:rowOK Try.prog (46,(.slice 103),1,24,[(.slice none 0 0)]):=⟨slice_is (by kernel_rfl),info_is (z:=(.slice none 0 0)) (by kernel_rfl) rfl rfl⟩
theorem row47:rowOK Try.prog (47,(.struct [(0,45),(1,46),(2,4)]),3,56,[(.slice none 0 0),(.slice none 0 0),(.bool false)]):=⟨struct_is (by kernel_rfl),info_is (z:=(.agg #[(.slice none 0 0),(.slice none 0 0),(.bool false)])) (by kernel_rfl) rfl rfl⟩
theorem row48:rowOK Try.prog (48,(.struct [(0,45),(1,46),(2,4)]),3,56,[(.slice none 0 0),(.slice none 0 0),(.bool false)]):=⟨struct_is (by kernel_rfl),info_is (z:=(.agg #[(.slice none 0 0),(.slice none 0 0),(.bool false)])) (by kernel_rfl) rfl rfl⟩
theorem row50:rowOK Try.prog (50,.plain,1,8,[(.nilFunc)]):=⟨plain_is (by kernel_rfl),info_is (z:=(.nilFunc)) (by kernel_rfl) rfl rfl⟩
theorem row51:rowOK Try.prog (51,.plain,1,8,[(.nilFunc)]):=⟨plain_is (by kernel_rfl),info_is (z:=(.nilFunc)) (by kernel_rfl) rfl rfl⟩
theorem row52:rowOK Try.prog (52,.plain,1,8,[(.nilFunc)]):=⟨plain_is (by kernel_rfl),info_is (z:=(.nilFunc)) (by kernel_rfl) rfl rfl⟩
theorem row53:rowOK Try.prog (53,(.struct [(0,3),(1,3)]),2,16,[(.int .i64 0),(.int .i64 0)]):=⟨struct_is (by kernel_rfl),info_is (z:=(.agg #[(.int .i64 0),(.int .i64 0)])) (by kernel_rfl) rfl rfl⟩
theorem row54:rowOK Try.prog (54,(.struct [(0,3),(1,3)]),2,16,[(.int .i64 0),(.int .i64 0)]):=⟨struct_is (by kernel_rfl),info_is (z:=(.agg #[(.int .i64 0),(.int .i64 0)])) (by kernel_rfl) rfl rfl⟩
theorem row55:rowOK Try.prog (55,.plain,1,8,[(.nilFunc)]):=⟨plain_is (by kernel_rfl),info_is (z:=(.nilFunc)) (by kernel_rfl) rfl rfl⟩
theorem row56:rowOK Try.prog (56,.plain,1,8,[(.nilFunc)]):=⟨plain_is (by kernel_rfl),info_is (z:=(.nilFunc)) (by kernel_rfl) rfl rfl⟩
theorem row57:rowOK Try.prog (57,.plain,1,8,[(.nilFunc)]):=⟨plain_is (by kernel_rfl),info_is (z:=(.nilFunc)) (by kernel_rfl) rfl rfl⟩
theorem row58:rowOK Try.prog (58,.plain,1,8,[(.pointer none)]):=⟨plain_is (by kernel_rfl),info_is (z:=(.pointer none)) (by kernel_rfl) rfl rfl⟩
theorem row60:rowOK Try.prog (60,.plain,1,8,[(.nilFunc)]):=⟨plain_is (by kernel_rfl),info_is (z:=(.nilFunc)) (by kernel_rfl) rfl rfl⟩
theorem row61:rowOK Try.prog (61,.plain,1,8,[(.nilFunc)]):=⟨plain_is (by kernel_rfl),info_is (z:=(.nilFunc)) (by kernel_rfl) rfl rfl⟩
theorem row62:rowOK Try.prog (62,.plain,1,8,[(.nilFunc)]):=⟨plain_is (by kernel_rfl),info_is (z:=(.nilFunc)) (by kernel_rfl) rfl rfl⟩
theorem row63:rowOK Try.prog (63,.plain,1,8,[(.nilFunc)]):=⟨plain_is (by kernel_rfl),info_is (z:=(.nilFunc)) (by kernel_rfl) rfl rfl⟩
theorem row64:rowOK Try.prog (64,.plain,1,8,[(.nilFunc)]):=⟨plain_is (by kernel_rfl),info_is (z:=(.nilFunc)) (by kernel_rfl) rfl rfl⟩
theorem row65:rowOK Try.prog (65,.plain,1,8,[(.nilFunc)]):=⟨plain_is (by kernel_rfl),info_is (z:=(.nilFunc)) (by kernel_rfl) rfl rfl⟩
theorem row66:rowOK Try.prog (66,.plain,1,8,[(.nilFunc)]):=⟨plain_is (by kernel_rfl),info_is (z:=(.nilFunc)) (by kernel_rfl) rfl rfl⟩
theorem row67:rowOK Try.prog (67,.plain,1,8,[(.nilFunc)]):=⟨plain_is (by kernel_rfl),info_is (z:=(.nilFunc)) (by kernel_rfl) rfl rfl⟩
theorem row68:rowOK Try.prog (68,(.slice 111),1,24,[(.slice none 0 0)]):=⟨slice_is (by kernel_rfl),info_is (z:=(.slice none 0 0)) (by kernel_rfl) rfl rfl⟩
theorem row69:rowOK Try.prog (69,.plain,1,8,[(.nilFunc)]):=⟨plain_is (by kernel_rfl),info_is (z:=(.nilFunc)) (by kernel_rfl) rfl rfl⟩
theorem row70:rowOK Try.prog (70,.plain,1,8,[(.nilFunc)]):=⟨plain_is (by kernel_rfl),info_is (z:=(.nilFunc)) (by kernel_rfl) rfl rfl⟩
theorem row71:rowOK Try.prog (71,.plain,1,8,[(.nilFunc)]):=⟨plain_is (by kernel_rfl),info_is (z:=(.nilFunc)) (by kernel_rfl) rfl rfl⟩
theorem row73:rowOK Try.prog (73,.plain,1,8,[(.nilFunc)]):=⟨plain_is (by kernel_rfl),info_is (z:=(.nilFunc)) (by kernel_rfl) rfl rfl⟩
theorem row74:rowOK Try.prog (74,(.arr 2 3),2,16,[(.int .i64 0),(.int .i64 0)]):=⟨arr_is (by kernel_rfl),info_is (z:=(.agg #[(.int .i64 0),(.int .i64 0)])) (by kernel_rfl) rfl rfl⟩
theorem row75:rowOK Try.prog (75,(.slice 78),1,24,[(.slice none 0 0)]):=⟨slice_is (by kernel_rfl),info_is (z:=(.slice none 0 0)) (by kernel_rfl) rfl rfl⟩
theorem row76:rowOK Try.prog (76,(.struct [(0,45),(1,75)]),2,48,[(.slice none 0 0),(.slice none 0 0)]):=⟨struct_is (by kernel_rfl),info_is (z:=(.agg #[(.slice none 0 0),(.slice none 0 0)])) (by kernel_rfl) rfl rfl⟩
theorem row77:rowOK Try.prog (77,(.struct [(0,45),(1,75)]),2,48,[(.slice none 0 0),(.slice none 0 0)]):=⟨struct_is (by kernel_rfl),info_is (z:=(.agg #[(.slice none 0 0),(.slice none 0 0)])) (by kernel_rfl) rfl rfl⟩
theorem row78:rowOK Try.prog (78,(.slice 79),1,24,[(.slice none 0 0)]):=⟨slice_is (by kernel_rfl),info_is (z:=(.slice none 0 0)) (by kernel_rfl) rfl rfl⟩
theorem row79:rowOK Try.prog (79,(.slice 86),1,24,[(.slice none 0 0)]):=⟨slice_is (by kernel_rfl),info_is (z:=(.slice none 0 0)) (by kernel_rfl) rfl rfl⟩
theorem row80:rowOK Try.prog (80,.plain,1,8,[(.nilFunc)]):=⟨plain_is (by kernel_rfl),info_is (z:=(.nilFunc)) (by kernel_rfl) rfl rfl⟩
theorem row81:rowOK Try.prog (81,.plain,1,8,[(.nilFunc)]):=⟨plain_is (by kernel_rfl),info_is (z:=(.nilFunc)) (by kernel_rfl) rfl rfl⟩
theorem row82:rowOK Try.prog (82,.plain,1,8,[(.nilFunc)]):=⟨plain_is (by kernel_rfl),info_is (z:=(.nilFunc)) (by kernel_rfl) rfl rfl⟩
theorem row83:rowOK Try.prog (83,(.struct [(0,3),(1,3),(2,3),(3,3)]),4,32,[(.int .i64 0),(.int .i64 0),(.int .i64 0),(.int .i64 0)]):=⟨struct_is (by kernel_rfl),info_is (z:=(.agg #[(.int .i64 0),(.int .i64 0),(.int .i64 0),(.int .i64 0)])) (by kernel_rfl) rfl rfl⟩
theorem row84:rowOK Try.prog (84,(.struct [(0,3),(1,3),(2,3),(3,3)]),4,32,[(.int .i64 0),(.int .i64 0),(.int .i64 0),(.int .i64 0)]):=⟨struct_is (by kernel_rfl),info_is (z:=(.agg #[(.int .i64 0),(.int .i64 0),(.int .i64 0),(.int .i64 0)])) (by kernel_rfl) rfl rfl⟩
theorem row85:rowOK Try.prog (85,(.struct [(0,84),(4,3),(5,3)]),6,48,[(.int .i64 0),(.int .i64 0),(.int .i64 0),(.int .i64 0),(.int .i64 0),(.int .i64 0)]):=⟨struct_is (by kernel_rfl),info_is (z:=(.agg #[(.int .i64 0),(.int .i64 0),(.int .i64 0),(.int .i64 0),(.int .i64 0),(.int .i64 0)])) (by kernel_rfl) rfl rfl⟩
theorem row86:rowOK Try.prog (86,(.struct [(0,84),(4,3),(5,3)]),6,48,[(.int .i64 0),(.int .i64 0),(.int .i64 0),(.int .i64 0),(.int .i64 0),(.int .i64 0)]):=⟨struct_is (by kernel_rfl),info_is (z:=(.agg #[(.int .i64 0),(.int .i64 0),(.int .i64 0),(.int .i64 0),(.int .i64 0),(.int .i64 0)])) (by kernel_rfl) rfl rfl⟩
theorem row88:rowOK Try.prog (88,.plain,1,8,[(.pointer none)]):=⟨plain_is (by kernel_rfl),info_is (z:=(.pointer none)) (by kernel_rfl) rfl rfl⟩
theorem row89:rowOK Try.prog (89,.plain,1,8,[(.nilFunc)]):=⟨plain_is (by kernel_rfl),info_is (z:=(.nilFunc)) (by kernel_rfl) rfl rfl⟩
theorem row90:rowOK Try.prog (90,.plain,1,8,[(.nilFunc)]):=⟨plain_is (by kernel_rfl),info_is (z:=(.nilFunc)) (by kernel_rfl) rfl rfl⟩
theorem row91:rowOK Try.prog (91,.plain,1,8,[(.nilFunc)]):=⟨plain_is (by kernel_rfl),info_is (z:=(.nilFunc)) (by kernel_rfl) rfl rfl⟩
theorem row92:rowOK Try.prog (92,.plain,1,8,[(.nilFunc)]):=⟨plain_is (by kernel_rfl),info_is (z:=(.nilFunc)) (by kernel_rfl) rfl rfl⟩
theorem row93:rowOK Try.prog (93,.plain,1,8,[(.nilFunc)]):=⟨plain_is (by kernel_rfl),info_is (z:=(.nilFunc)) (by kernel_rfl) rfl rfl⟩
theorem row94:rowOK Try.prog (94,.plain,1,8,[(.nilFunc)]):=⟨plain_is (by kernel_rfl),info_is (z:=(.nilFunc)) (by kernel_rfl) rfl rfl⟩
theorem row95:rowOK Try.prog (95,(.slice 84),1,24,[(.slice none 0 0)]):=⟨slice_is (by kernel_rfl),info_is (z:=(.slice none 0 0)) (by kernel_rfl) rfl rfl⟩
theorem row97:rowOK Try.prog (97,.plain,1,8,[(.nilFunc)]):=⟨plain_is (by kernel_rfl),info_is (z:=(.nilFunc)) (by kernel_rfl) rfl rfl⟩
theorem row98:rowOK Try.prog (98,.plain,1,8,[(.nilFunc)]):=⟨plain_is (by kernel_rfl),info_is (z:=(.nilFunc)) (by kernel_rfl) rfl rfl⟩
theorem row99:rowOK Try.prog (99,.plain,1,8,[(.nilFunc)]):=⟨plain_is (by kernel_rfl),info_is (z:=(.nilFunc)) (by kernel_rfl) rfl rfl⟩
theorem row100:rowOK Try.prog (100,(.struct [(0,22),(1,22),(2,22),(3,4)]),4,80,[(.slice none 0 0),(.slice none 0 0),(.slice none 0 0),(.bool false)]):=⟨struct_is (by kernel_rfl),info_is (z:=(.agg #[(.slice none 0 0),(.slice none 0 0),(.slice none 0 0),(.bool false)])) (by kernel_rfl) rfl rfl⟩
theorem row101:rowOK Try.prog (101,(.struct [(0,22),(1,22),(2,22),(3,4)]),4,80,[(.slice none 0 0),(.slice none 0 0),(.slice none 0 0),(.bool false)]):=⟨struct_is (by kernel_rfl),info_is (z:=(.agg #[(.slice none 0 0),(.slice none 0 0),(.slice none 0 0),(.bool false)])) (by kernel_rfl) rfl rfl⟩
theorem row102:rowOK Try.prog (102,.plain,1,8,[(.nilFunc)]):=⟨plain_is (by kernel_rfl),info_is (z:=(.nilFunc)) (by kernel_rfl) rfl rfl⟩
theorem row103:rowOK Try.prog (103,(.slice 104),1,24,[(.slice none 0 0)]):=⟨slice_is (by kernel_rfl),info_is (z:=(.slice none 0 0)) (by kernel_rfl) rfl rfl⟩
theorem row104:rowOK Try.prog (104,(.slice 106),1,24,[(.slice none 0 0)]):=⟨slice_is (by kernel_rfl),info_is (z:=(.slice none 0 0)) (by kernel_rfl) rfl rfl⟩
theorem row105:rowOK Try.prog (105,(.struct [(0,3),(1,3),(2,3),(3,3)]),4,32,[(.int .i64 0),(.int .i64 0),(.int .i64 0),(.int .i64 0)]):=⟨struct_is (by kernel_rfl),info_is (z:=(.agg #[(.int .i64 0),(.int .i64 0),(.int .i64 0),(.int .i64 0)])) (by kernel_rfl) rfl rfl⟩
theorem row106:rowOK Try.prog (106,(.struct [(0,3),(1,3),(2,3),(3,3)]),4,32,[(.int .i64 0),(.int .i64 0),(.int .i64 0),(.int .i64 0)]):=⟨struct_is (by kernel_rfl),info_is (z:=(.agg #[(.int .i64 0),(.int .i64 0),(.int .i64 0),(.int .i64 0)])) (by kernel_rfl) rfl rfl⟩
theorem row107:rowOK Try.prog (107,.plain,1,8,[(.nilFunc)]):=⟨plain_is (by kernel_rfl),info_is (z:=(.nilFunc)) (by kernel_rfl) rfl rfl⟩
theorem row108:rowOK Try.prog (108,.plain,1,8,[(.nilFunc)]):=⟨plain_is (by kernel_rfl),info_is (z:=(.nilFunc)) (by kernel_rfl) rfl rfl⟩
theorem row109:rowOK Try.prog (109,.plain,1,8,[(.nilFunc)]):=⟨plain_is (by kernel_rfl),info_is (z:=(.nilFunc)) (by kernel_rfl) rfl rfl⟩
theorem row110:rowOK Try.prog (110,.plain,1,8,[(.nilFunc)]):=⟨plain_is (by kernel_rfl),info_is (z:=(.nilFunc)) (by kernel_rfl) rfl rfl⟩
theorem row111:rowOK Try.prog (111,(.slice 4),1,24,[(.slice none 0 0)]):=⟨slice_is (by kernel_rfl),info_is (z:=(.slice none 0 0)) (by kernel_rfl) rfl rfl⟩
theorem row112:rowOK Try.prog (112,.plain,1,8,[(.nilFunc)]):=⟨plain_is (by kernel_rfl),info_is (z:=(.nilFunc)) (by kernel_rfl) rfl rfl⟩
theorem row113:rowOK Try.prog (113,.plain,1,8,[(.nilFunc)]):=⟨plain_is (by kernel_rfl),info_is (z:=(.nilFunc)) (by kernel_rfl) rfl rfl⟩
theorem row114:rowOK Try.prog (114,.plain,1,8,[(.nilFunc)]):=⟨plain_is (by kernel_rfl),info_is (z:=(.nilFunc)) (by kernel_rfl) rfl rfl⟩
theorem row115:rowOK Try.prog (115,.plain,1,8,[(.nilFunc)]):=⟨plain_is (by kernel_rfl),info_is (z:=(.nilFunc)) (by kernel_rfl) rfl rfl⟩
theorem row116:rowOK Try.prog (116,.plain,1,8,[(.nilFunc)]):=⟨plain_is (by kernel_rfl),info_is (z:=(.nilFunc)) (by kernel_rfl) rfl rfl⟩
theorem row117:rowOK Try.prog (117,(.slice 121),1,24,[(.slice none 0 0)]):=⟨slice_is (by kernel_rfl),info_is (z:=(.slice none 0 0)) (by kernel_rfl) rfl rfl⟩
theorem row118:rowOK Try.prog (118,(.struct [(0,111),(1,117)]),2,48,[(.slice none 0 0),(.slice none 0 0)]):=⟨struct_is (by kernel_rfl),info_is (z:=(.agg #[(.slice none 0 0),(.slice none 0 0)])) (by kernel_rfl) rfl rfl⟩
theorem row119:rowOK Try.prog (119,(.struct [(0,111),(1,117)]),2,48,[(.slice none 0 0),(.slice none 0 0)]):=⟨struct_is (by kernel_rfl),info_is (z:=(.agg #[(.slice none 0 0),(.slice none 0 0)])) (by kernel_rfl) rfl rfl⟩
theorem row120:rowOK Try.prog (120,.plain,1,8,[(.nilFunc)]):=⟨plain_is (by kernel_rfl),info_is (z:=(.nilFunc)) (by kernel_rfl) rfl rfl⟩
theorem row121:rowOK Try.prog (121,(.slice 123),1,24,[(.slice none 0 0)]):=⟨slice_is (by kernel_rfl),info_is (z:=(.slice none 0 0)) (by kernel_rfl) rfl rfl⟩
theorem row122:rowOK Try.prog (122,(.struct [(0,3),(1,3)]),2,16,[(.int .i64 0),(.int .i64 0)]):=⟨struct_is (by kernel_rfl),info_is (z:=(.agg #[(.int .i64 0),(.int .i64 0)])) (by kernel_rfl) rfl rfl⟩
theorem row123:rowOK Try.prog (123,(.struct [(0,3),(1,3)]),2,16,[(.int .i64 0),(.int .i64 0)]):=⟨struct_is (by kernel_rfl),info_is (z:=(.agg #[(.int .i64 0),(.int .i64 0)])) (by kernel_rfl) rfl rfl⟩
theorem row124:rowOK Try.prog (124,.plain,1,8,[(.nilFunc)]):=⟨plain_is (by kernel_rfl),info_is (z:=(.nilFunc)) (by kernel_rfl) rfl rfl⟩
theorem row125:rowOK Try.prog (125,.plain,1,8,[(.nilFunc)]):=⟨plain_is (by kernel_rfl),info_is (z:=(.nilFunc)) (by kernel_rfl) rfl rfl⟩
theorem row126:rowOK Try.prog (126,.plain,1,8,[(.nilFunc)]):=⟨plain_is (by kernel_rfl),info_is (z:=(.nilFunc)) (by kernel_rfl) rfl rfl⟩
theorem row127:rowOK Try.prog (127,.plain,1,8,[(.nilFunc)]):=⟨plain_is (by kernel_rfl),info_is (z:=(.nilFunc)) (by kernel_rfl) rfl rfl⟩
theorem row128:rowOK Try.prog (128,.plain,1,8,[(.nilFunc)]):=⟨plain_is (by kernel_rfl),info_is (z:=(.nilFunc)) (by kernel_rfl) rfl rfl⟩
theorem row129:rowOK Try.prog (129,.plain,1,8,[(.nilFunc)]):=⟨plain_is (by kernel_rfl),info_is (z:=(.nilFunc)) (by kernel_rfl) rfl rfl⟩
theorem row130:rowOK Try.prog (130,(.struct [(0,22)]),1,24,[(.slice none 0 0)]):=⟨struct_is (by kernel_rfl),info_is (z:=(.agg #[(.slice none 0 0)])) (by kernel_rfl) rfl rfl⟩
theorem row131:rowOK Try.prog (131,(.struct [(0,22)]),1,24,[(.slice none 0 0)]):=⟨struct_is (by kernel_rfl),info_is (z:=(.agg #[(.slice none 0 0)])) (by kernel_rfl) rfl rfl⟩
theorem row132:rowOK Try.prog (132,.plain,1,8,[(.nilFunc)]):=⟨plain_is (by kernel_rfl),info_is (z:=(.nilFunc)) (by kernel_rfl) rfl rfl⟩
theorem row133:rowOK Try.prog (133,.plain,1,8,[(.nilFunc)]):=⟨plain_is (by kernel_rfl),info_is (z:=(.nilFunc)) (by kernel_rfl) rfl rfl⟩
theorem row134:rowOK Try.prog (134,.plain,1,8,[(.nilFunc)]):=⟨plain_is (by kernel_rfl),info_is (z:=(.nilFunc)) (by kernel_rfl) rfl rfl⟩
theorem row135:rowOK Try.prog (135,.plain,1,8,[(.nilFunc)]):=⟨plain_is (by kernel_rfl),info_is (z:=(.nilFunc)) (by kernel_rfl) rfl rfl⟩
theorem row136:rowOK Try.prog (136,.plain,1,8,[(.nilFunc)]):=⟨plain_is (by kernel_rfl),info_is (z:=(.nilFunc)) (by kernel_rfl) rfl rfl⟩
theorem row137:rowOK Try.prog (137,.plain,1,8,[(.nilFunc)]):=⟨plain_is (by kernel_rfl),info_is (z:=(.nilFunc)) (by kernel_rfl) rfl rfl⟩
theorem row138:rowOK Try.prog (138,.plain,1,8,[(.nilFunc)]):=⟨plain_is (by kernel_rfl),info_is (z:=(.nilFunc)) (by kernel_rfl) rfl rfl⟩
theorem row139:rowOK Try.prog (139,.plain,1,8,[(.nilFunc)]):=⟨plain_is (by kernel_rfl),info_is (z:=(.nilFunc)) (by kernel_rfl) rfl rfl⟩
theorem row140:rowOK Try.prog (140,.plain,1,8,[(.int .u64 0)]):=⟨plain_is (by kernel_rfl),info_is (z:=(.int .u64 0)) (by kernel_rfl) rfl rfl⟩
theorem row142:rowOK Try.prog (142,.plain,1,8,[(.nilFunc)]):=⟨plain_is (by kernel_rfl),info_is (z:=(.nilFunc)) (by kernel_rfl) rfl rfl⟩
theorem row143:rowOK Try.prog (143,(.slice 145),1,24,[(.slice none 0 0)]):=⟨slice_is (by kernel_rfl),info_is (z:=(.slice none 0 0)) (by kernel_rfl) rfl rfl⟩
theorem row144:rowOK Try.prog (144,(.struct [(0,4),(1,3),(2,3)]),3,24,[(.bool false),(.int .i64 0),(.int .i64 0)]):=⟨struct_is (by kernel_rfl),info_is (z:=(.agg #[(.bool false),(.int .i64 0),(.int .i64 0)])) (by kernel_rfl) rfl rfl⟩
theorem row145:rowOK Try.prog (145,(.struct [(0,4),(1,3),(2,3)]),3,24,[(.bool false),(.int .i64 0),(.int .i64 0)]):=⟨struct_is (by kernel_rfl),info_is (z:=(.agg #[(.bool false),(.int .i64 0),(.int .i64 0)])) (by kernel_rfl) rfl rfl⟩
theorem row146:rowOK Try.prog (146,.plain,1,8,[(.nilFunc)]):=⟨plain_is (by kernel_rfl),info_is (z:=(.nilFunc)) (by kernel_rfl) rfl rfl⟩
theorem row147:rowOK Try.prog (147,.plain,1,8,[(.nilFunc)]):=⟨plain_is (by kernel_rfl),info_is (z:=(.nilFunc)) (by kernel_rfl) rfl rfl⟩
theorem row148:rowOK Try.prog (148,.plain,1,8,[(.nilFunc)]):=⟨plain_is (by kernel_rfl),info_is (z:=(.nilFunc)) (by kernel_rfl) rfl rfl⟩
theorem row149:rowOK Try.prog (149,.plain,1,8,[(.nilFunc)]):=⟨plain_is (by kernel_rfl),info_is (z:=(.nilFunc)) (by kernel_rfl) rfl rfl⟩
theorem row150:rowOK Try.prog (150,.plain,1,8,[(.nilFunc)]):=⟨plain_is (by kernel_rfl),info_is (z:=(.nilFunc)) (by kernel_rfl) rfl rfl⟩
theorem row151:rowOK Try.prog (151,.plain,1,8,[(.nilFunc)]):=⟨plain_is (by kernel_rfl),info_is (z:=(.nilFunc)) (by kernel_rfl) rfl rfl⟩
theorem row152:rowOK Try.prog (152,.plain,1,4,[(.int .u32 0)]):=⟨plain_is (by kernel_rfl),info_is (z:=(.int .u32 0)) (by kernel_rfl) rfl rfl⟩
theorem row154:rowOK Try.prog (154,.plain,1,8,[(.nilFunc)]):=⟨plain_is (by kernel_rfl),info_is (z:=(.nilFunc)) (by kernel_rfl) rfl rfl⟩
theorem row155:rowOK Try.prog (155,.plain,1,8,[(.int .u64 0)]):=⟨plain_is (by kernel_rfl),info_is (z:=(.int .u64 0)) (by kernel_rfl) rfl rfl⟩
theorem row157:rowOK Try.prog (157,.plain,1,8,[(.nilFunc)]):=⟨plain_is (by kernel_rfl),info_is (z:=(.nilFunc)) (by kernel_rfl) rfl rfl⟩
theorem row158:rowOK Try.prog (158,.plain,1,8,[(.nilFunc)]):=⟨plain_is (by kernel_rfl),info_is (z:=(.nilFunc)) (by kernel_rfl) rfl rfl⟩
theorem row159:rowOK Try.prog (159,.plain,1,8,[(.nilFunc)]):=⟨plain_is (by kernel_rfl),info_is (z:=(.nilFunc)) (by kernel_rfl) rfl rfl⟩
theorem row160:rowOK Try.prog (160,(.struct [(0,17),(1,17),(2,17),(3,9)]),4,40,[(.pointer none),(.pointer none),(.pointer none),(.string ⟨#[]⟩)]):=⟨struct_is (by kernel_rfl),info_is (z:=(.agg #[(.pointer none),(.pointer none),(.pointer none),(.string ⟨#[]⟩)])) (by kernel_rfl) rfl rfl⟩
theorem row161:rowOK Try.prog (161,(.struct [(0,17),(1,17),(2,17),(3,9)]),4,40,[(.pointer none),(.pointer none),(.pointer none),(.string ⟨#[]⟩)]):=⟨struct_is (by kernel_rfl),info_is (z:=(.agg #[(.pointer none),(.pointer none),(.pointer none),(.string ⟨#[]⟩)])) (by kernel_rfl) rfl rfl⟩
theorem row165:rowOK Try.prog (165,.plain,1,8,[(.nilFunc)]):=⟨plain_is (by kernel_rfl),info_is (z:=(.nilFunc)) (by kernel_rfl) rfl rfl⟩
theorem row166:rowOK Try.prog (166,.plain,1,1,[(.int .u8 0)]):=⟨plain_is (by kernel_rfl),info_is (z:=(.int .u8 0)) (by kernel_rfl) rfl rfl⟩
theorem row167:rowOK Try.prog (167,.plain,1,1,[(.int .u8 0)]):=⟨plain_is (by kernel_rfl),info_is (z:=(.int .u8 0)) (by kernel_rfl) rfl rfl⟩
theorem row168:rowOK Try.prog (168,.plain,1,8,[(.nilFunc)]):=⟨plain_is (by kernel_rfl),info_is (z:=(.nilFunc)) (by kernel_rfl) rfl rfl⟩
theorem row169:rowOK Try.prog (169,.plain,1,8,[(.pointer none)]):=⟨plain_is (by kernel_rfl),info_is (z:=(.pointer none)) (by kernel_rfl) rfl rfl⟩
theorem row170:rowOK Try.prog (170,.plain,1,4,[(.int .i32 0)]):=⟨plain_is (by kernel_rfl),info_is (z:=(.int .i32 0)) (by kernel_rfl) rfl rfl⟩
theorem row171:rowOK Try.prog (171,.plain,1,4,[(.int .i32 0)]):=⟨plain_is (by kernel_rfl),info_is (z:=(.int .i32 0)) (by kernel_rfl) rfl rfl⟩
theorem row172:rowOK Try.prog (172,(.struct [(0,12),(1,12),(2,152),(3,166),(4,5),(5,5),(6,167),(7,168),(8,169),(9,170),(10,171)]),11,48,[(.int .u64 0),(.int .u64 0),(.int .u32 0),(.int .u8 0),(.int .u8 0),(.int .u8 0),(.int .u8 0),(.nilFunc),(.pointer none),(.int .i32 0),(.int .i32 0)]):=⟨struct_is (by kernel_rfl),info_is (z:=(.agg #[(.int .u64 0),(.int .u64 0),(.int .u32 0),(.int .u8 0),(.int .u8 0),(.int .u8 0),(.int .u8 0),(.nilFunc),(.pointer none),(.int .i32 0),(.int .i32 0)])) (by kernel_rfl) rfl rfl⟩
theorem row173:rowOK Try.prog (173,(.struct [(0,12),(1,12),(2,152),(3,166),(4,5),(5,5),(6,167),(7,168),(8,169),(9,170),(10,171)]),11,48,[(.int .u64 0),(.int .u64 0),(.int .u32 0),(.int .u8 0),(.int .u8 0),(.int .u8 0),(.int .u8 0),(.nilFunc),(.pointer none),(.int .i32 0),(.int .i32 0)]):=⟨struct_is (by kernel_rfl),info_is (z:=(.agg #[(.int .u64 0),(.int .u64 0),(.int .u32 0),(.int .u8 0),(.int .u8 0),(.int .u8 0),(.int .u8 0),(.nilFunc),(.pointer none),(.int .i32 0),(.int .i32 0)])) (by kernel_rfl) rfl rfl⟩
def eqas:List Nat:=[74]
theorem allEq:allE Try.prog eqas:=⟨by kernel_rfl,trivial⟩
def eqss:List Nat:=[25,26,33,53,54,122,123]
theorem allSt:allS Try.prog rows eqss:=⟨⟨rfl,by kernel_rfl,by kernel_rfl,_,_,Try.underlying25,by decide,by decide,rfl,rfl,by kernel_rfl,by kernel_rfl⟩,⟨rfl,by kernel_rfl,by kernel_rfl,_,_,Try.underlying26,by decide,by decide,rfl,rfl,by kernel_rfl,by kernel_rfl⟩,⟨rfl,by kernel_rfl,by kernel_rfl,_,_,Try.underlying33,by decide,by decide,rfl,rfl,by kernel_rfl,by kernel_rfl⟩,⟨rfl,by kernel_rfl,by kernel_rfl,_,_,Try.underlying53,by decide,by decide,rfl,rfl,by kernel_rfl,by kernel_rfl⟩,⟨rfl,by kernel_rfl,by kernel_rfl,_,_,Try.underlying54,by decide,by decide,rfl,rfl,by kernel_rfl,by kernel_rfl⟩,⟨rfl,by kernel_rfl,by kernel_rfl,_,_,Try.underlying122,by decide,by decide,rfl,rfl,by kernel_rfl,by kernel_rfl⟩,⟨rfl,by kernel_rfl,by kernel_rfl,_,_,Try.underlying123,by decide,by decide,rfl,rfl,by kernel_rfl,by kernel_rfl⟩,trivial⟩
def cf:Cfg:=cfOf rows eqas eqss
theorem allRows:allR Try.prog rows:=⟨row1,row2,row3,row4,row5,row6,row7,row8,row9,row10,row11,row12,row13,row14,row15,row16,row17,row18,row19,row21,row22,row23,row24,row25,row26,row27,row28,row30,row31,row32,row33,row34,row35,row36,row37,row38,row39,row41,row42,row43,row44,row45,row46,row47,row48,row50,row51,row52,row53,row54,row55,row56,row57,row58,row60,row61,row62,row63,row64,row65,row66,row67,row68,row69,row70,row71,row73,row74,row75,row76,row77,row78,row79,row80,row81,row82,row83,row84,row85,row86,row88,row89,row90,row91,row92,row93,row94,row95,row97,row98,row99,row100,row101,row102,row103,row104,row105,row106,row107,row108,row109,row110,row111,row112,row113,row114,row115,row116,row117,row118,row119,row120,row121,row122,row123,row124,row125,row126,row127,row128,row129,row130,row131,row132,row133,row134,row135,row136,row137,row138,row139,row140,row142,row143,row144,row145,row146,row147,row148,row149,row150,row151,row152,row154,row155,row157,row158,row159,row160,row161,row165,row166,row167,row168,row169,row170,row171,row172,row173,trivial⟩
theorem cfOK:CfgOK Try.prog cf:=cfOf_ok allRows allEq allSt
set_option maxRecDepth 100000 in
theorem tys1:cf.ty 1 = .plain∧cf.sz 1=1∧cf.ty 2 = .int∧cf.sz 2=1∧cf.bytes 2=8∧cf.zero 2=[(.int .i64 0)]∧cf.ty 3 = .int∧cf.sz 3=1∧cf.bytes 3=8∧cf.zero 3=[(.int .i64 0)]∧cf.ty 4 = .bool∧cf.sz 4=1∧cf.bytes 4=1∧cf.zero 4=[(.bool false)]∧cf.ty 5 = .plain∧cf.sz 5=1∧cf.bytes 5=1∧cf.zero 5=[(.int .u8 0)]∧cf.ty 6 = .plain∧cf.sz 6=1∧cf.bytes 6=1∧cf.zero 6=[(.int .u8 0)]∧cf.ty 7=(.struct [(0,2),(1,3),(2,4),(3,6)])∧cf.sz 7=4∧cf.bytes 7=24∧cf.zero 7=[(.int .i64 0),(.int .i64 0),(.bool false),(.int .u8 0)]∧cf.ty 8=(.struct [(0,2),(1,3),(2,4),(3,6)])∧cf.sz 8=4∧cf.bytes 8=24∧cf.zero 8=[(.int .i64 0),(.int .i64 0),(.bool false),(.int .u8 0)]∧cf.ty 9 = .plain∧cf.sz 9=1∧cf.ty 10 = .plain∧cf.sz 10=1∧cf.ty 11 = .plain∧cf.sz 11=1∧cf.ty 12 = .plain∧cf.sz 12=1∧cf.bytes 12=8:=⟨rfl,rfl,rfl,rfl,rfl,rfl,rfl,rfl,rfl,rfl,rfl,rfl,rfl,rfl,rfl,rfl,rfl,rfl,rfl,rfl,rfl,rfl,rfl,rfl,rfl,rfl,rfl,rfl,rfl,rfl,rfl,rfl,rfl,rfl,rfl,rfl,rfl,rfl,rfl⟩
set_option maxRecDepth 100000 in
theorem tys2:cf.zero 12=[(.int .u64 0)]∧cf.ty 13=(.struct [(0,9),(1,12)])∧cf.sz 13=2∧cf.bytes 13=24∧cf.zero 13=[(.string ⟨#[]⟩),(.int .u64 0)]∧cf.ty 14=(.struct [(0,9),(1,12)])∧cf.sz 14=2∧cf.bytes 14=24∧cf.zero 14=[(.string ⟨#[]⟩),(.int .u64 0)]∧cf.ty 15 = .plain∧cf.sz 15=1∧cf.ty 16 = .plain∧cf.sz 16=1∧cf.ty 17 = .plain∧cf.sz 17=1∧cf.ty 18=(.struct [(0,17)])∧cf.sz 18=1∧cf.bytes 18=8∧cf.zero 18=[(.pointer none)]∧cf.ty 19=(.struct [(0,17)])∧cf.sz 19=1∧cf.bytes 19=8∧cf.zero 19=[(.pointer none)]∧cf.ty 21 = .plain∧cf.sz 21=1∧cf.bytes 21=4∧cf.zero 21=[(.int .i32 0)]∧cf.ty 22=(.slice 28)∧cf.sz 22=1∧cf.bytes 22=24∧cf.zero 22=[(.slice none 0 0)]∧cf.ty 23=(.struct [(0,22),(1,22)])∧cf.sz 23=2∧cf.bytes 23=48∧cf.zero 23=[(.slice none 0 0),(.slice none 0 0)]∧cf.ty 24=(.struct [(0,22),(1,22)])∧cf.sz 24=2∧cf.bytes 24=48∧cf.zero 24=[(.slice none 0 0),(.slice none 0 0)]:=⟨rfl,rfl,rfl,rfl,rfl,rfl,rfl,rfl,rfl,rfl,rfl,rfl,rfl,rfl,rfl,rfl,rfl,rfl,rfl,rfl,rfl,rfl,rfl,rfl,rfl,rfl,rfl,rfl,rfl,rfl,rfl,rfl,rfl,rfl,rfl,rfl,rfl,rfl,rfl⟩
set_option maxRecDepth 100000 in
theorem tys3:cf.ty 25=(.struct [(0,3),(1,3)])∧cf.sz 25=2∧cf.bytes 25=16∧cf.zero 25=[(.int .i64 0),(.int .i64 0)]∧cf.ty 26=(.struct [(0,3),(1,3)])∧cf.sz 26=2∧cf.bytes 26=16∧cf.zero 26=[(.int .i64 0),(.int .i64 0)]∧cf.ty 27 = .plain∧cf.sz 27=1∧cf.ty 28=(.slice 3)∧cf.sz 28=1∧cf.bytes 28=24∧cf.zero 28=[(.slice none 0 0)]∧cf.ty 30 = .plain∧cf.sz 30=1∧cf.ty 31=(.struct [(0,22),(1,22)])∧cf.sz 31=2∧cf.bytes 31=48∧cf.zero 31=[(.slice none 0 0),(.slice none 0 0)]∧cf.ty 32 = .plain∧cf.sz 32=1∧cf.ty 33=(.struct [(0,3),(1,3)])∧cf.sz 33=2∧cf.bytes 33=16∧cf.zero 33=[(.int .i64 0),(.int .i64 0)]∧cf.ty 34 = .plain∧cf.sz 34=1∧cf.ty 35 = .plain∧cf.sz 35=1∧cf.ty 36 = .plain∧cf.sz 36=1∧cf.ty 37 = .plain∧cf.sz 37=1∧cf.ty 38 = .plain∧cf.sz 38=1∧cf.ty 39 = .plain∧cf.sz 39=1∧cf.ty 41 = .plain:=⟨rfl,rfl,rfl,rfl,rfl,rfl,rfl,rfl,rfl,rfl,rfl,rfl,rfl,rfl,rfl,rfl,rfl,rfl,rfl,rfl,rfl,rfl,rfl,rfl,rfl,rfl,rfl,rfl,rfl,rfl,rfl,rfl,rfl,rfl,rfl,rfl,rfl,rfl,rfl⟩
set_option maxRecDepth 100000 in
theorem tys4:cf.sz 41=1∧cf.ty 42 = .plain∧cf.sz 42=1∧cf.ty 43 = .plain∧cf.sz 43=1∧cf.ty 44 = .plain∧cf.sz 44=1∧cf.ty 45=(.slice 74)∧cf.sz 45=1∧cf.bytes 45=24∧cf.zero 45=[(.slice none 0 0)]∧cf.ty 46=(.slice 103)∧cf.sz 46=1∧cf.bytes 46=24∧cf.zero 46=[(.slice none 0 0)]∧cf.ty 47=(.struct [(0,45),(1,46),(2,4)])∧cf.sz 47=3∧cf.bytes 47=56∧cf.zero 47=[(.slice none 0 0),(.slice none 0 0),(.bool false)]∧cf.ty 48=(.struct [(0,45),(1,46),(2,4)])∧cf.sz 48=3∧cf.bytes 48=56∧cf.zero 48=[(.slice none 0 0),(.slice none 0 0),(.bool false)]∧cf.ty 50 = .plain∧cf.sz 50=1∧cf.ty 51 = .plain∧cf.sz 51=1∧cf.ty 52 = .plain∧cf.sz 52=1∧cf.ty 53=(.struct [(0,3),(1,3)])∧cf.sz 53=2∧cf.bytes 53=16∧cf.zero 53=[(.int .i64 0),(.int .i64 0)]∧cf.ty 54=(.struct [(0,3),(1,3)])∧cf.sz 54=2∧cf.bytes 54=16∧cf.zero 54=[(.int .i64 0),(.int .i64 0)]∧cf.ty 55 = .plain∧cf.sz 55=1:=⟨rfl,rfl,rfl,rfl,rfl,rfl,rfl,rfl,rfl,rfl,rfl,rfl,rfl,rfl,rfl,rfl,rfl,rfl,rfl,rfl,rfl,rfl,rfl,rfl,rfl,rfl,rfl,rfl,rfl,rfl,rfl,rfl,rfl,rfl,rfl,rfl,rfl,rfl,rfl⟩
set_option maxRecDepth 100000 in
theorem tys5:cf.ty 56 = .plain∧cf.sz 56=1∧cf.ty 57 = .plain∧cf.sz 57=1∧cf.ty 58 = .plain∧cf.sz 58=1∧cf.ty 60 = .plain∧cf.sz 60=1∧cf.ty 61 = .plain∧cf.sz 61=1∧cf.ty 62 = .plain∧cf.sz 62=1∧cf.ty 63 = .plain∧cf.sz 63=1∧cf.ty 64 = .plain∧cf.sz 64=1∧cf.ty 65 = .plain∧cf.sz 65=1∧cf.ty 66 = .plain∧cf.sz 66=1∧cf.ty 67 = .plain∧cf.sz 67=1∧cf.ty 68=(.slice 111)∧cf.sz 68=1∧cf.bytes 68=24∧cf.zero 68=[(.slice none 0 0)]∧cf.ty 69 = .plain∧cf.sz 69=1∧cf.ty 70 = .plain∧cf.sz 70=1∧cf.ty 71 = .plain∧cf.sz 71=1∧cf.ty 73 = .plain∧cf.sz 73=1∧cf.ty 74=(.arr 2 3)∧cf.sz 74=2∧cf.bytes 74=16∧cf.zero 74=[(.int .i64 0),(.int .i64 0)]∧cf.ty 75=(.slice 78):=⟨rfl,rfl,rfl,rfl,rfl,rfl,rfl,rfl,rfl,rfl,rfl,rfl,rfl,rfl,rfl,rfl,rfl,rfl,rfl,rfl,rfl,rfl,rfl,rfl,rfl,rfl,rfl,rfl,rfl,rfl,rfl,rfl,rfl,rfl,rfl,rfl,rfl,rfl,rfl⟩
set_option maxRecDepth 100000 in
theorem tys6:cf.sz 75=1∧cf.bytes 75=24∧cf.zero 75=[(.slice none 0 0)]∧cf.ty 76=(.struct [(0,45),(1,75)])∧cf.sz 76=2∧cf.bytes 76=48∧cf.zero 76=[(.slice none 0 0),(.slice none 0 0)]∧cf.ty 77=(.struct [(0,45),(1,75)])∧cf.sz 77=2∧cf.bytes 77=48∧cf.zero 77=[(.slice none 0 0),(.slice none 0 0)]∧cf.ty 78=(.slice 79)∧cf.sz 78=1∧cf.bytes 78=24∧cf.zero 78=[(.slice none 0 0)]∧cf.ty 79=(.slice 86)∧cf.sz 79=1∧cf.bytes 79=24∧cf.zero 79=[(.slice none 0 0)]∧cf.ty 80 = .plain∧cf.sz 80=1∧cf.ty 81 = .plain∧cf.sz 81=1∧cf.ty 82 = .plain∧cf.sz 82=1∧cf.ty 83=(.struct [(0,3),(1,3),(2,3),(3,3)])∧cf.sz 83=4∧cf.bytes 83=32∧cf.zero 83=[(.int .i64 0),(.int .i64 0),(.int .i64 0),(.int .i64 0)]∧cf.ty 84=(.struct [(0,3),(1,3),(2,3),(3,3)])∧cf.sz 84=4∧cf.bytes 84=32∧cf.zero 84=[(.int .i64 0),(.int .i64 0),(.int .i64 0),(.int .i64 0)]∧cf.ty 85=(.struct [(0,84),(4,3),(5,3)])∧cf.sz 85=6∧cf.bytes 85=48∧cf.zero 85=[(.int .i64 0),(.int .i64 0),(.int .i64 0),(.int .i64 0),(.int .i64 0),(.int .i64 0)]∧cf.ty 86=(.struct [(0,84),(4,3),(5,3)])∧cf.sz 86=6:=⟨rfl,rfl,rfl,rfl,rfl,rfl,rfl,rfl,rfl,rfl,rfl,rfl,rfl,rfl,rfl,rfl,rfl,rfl,rfl,rfl,rfl,rfl,rfl,rfl,rfl,rfl,rfl,rfl,rfl,rfl,rfl,rfl,rfl,rfl,rfl,rfl,rfl,rfl,rfl⟩
set_option maxRecDepth 100000 in
theorem tys7:cf.bytes 86=48∧cf.zero 86=[(.int .i64 0),(.int .i64 0),(.int .i64 0),(.int .i64 0),(.int .i64 0),(.int .i64 0)]∧cf.ty 88 = .plain∧cf.sz 88=1∧cf.ty 89 = .plain∧cf.sz 89=1∧cf.ty 90 = .plain∧cf.sz 90=1∧cf.ty 91 = .plain∧cf.sz 91=1∧cf.ty 92 = .plain∧cf.sz 92=1∧cf.ty 93 = .plain∧cf.sz 93=1∧cf.ty 94 = .plain∧cf.sz 94=1∧cf.ty 95=(.slice 84)∧cf.sz 95=1∧cf.bytes 95=24∧cf.zero 95=[(.slice none 0 0)]∧cf.ty 97 = .plain∧cf.sz 97=1∧cf.ty 98 = .plain∧cf.sz 98=1∧cf.ty 99 = .plain∧cf.sz 99=1∧cf.ty 100=(.struct [(0,22),(1,22),(2,22),(3,4)])∧cf.sz 100=4∧cf.bytes 100=80∧cf.zero 100=[(.slice none 0 0),(.slice none 0 0),(.slice none 0 0),(.bool false)]∧cf.ty 101=(.struct [(0,22),(1,22),(2,22),(3,4)])∧cf.sz 101=4∧cf.bytes 101=80∧cf.zero 101=[(.slice none 0 0),(.slice none 0 0),(.slice none 0 0),(.bool false)]∧cf.ty 102 = .plain∧cf.sz 102=1∧cf.ty 103=(.slice 104)∧cf.sz 103=1∧cf.bytes 103=24:=⟨rfl,rfl,rfl,rfl,rfl,rfl,rfl,rfl,rfl,rfl,rfl,rfl,rfl,rfl,rfl,rfl,rfl,rfl,rfl,rfl,rfl,rfl,rfl,rfl,rfl,rfl,rfl,rfl,rfl,rfl,rfl,rfl,rfl,rfl,rfl,rfl,rfl,rfl,rfl⟩
set_option maxRecDepth 100000 in
theorem tys8:cf.zero 103=[(.slice none 0 0)]∧cf.ty 104=(.slice 106)∧cf.sz 104=1∧cf.bytes 104=24∧cf.zero 104=[(.slice none 0 0)]∧cf.ty 105=(.struct [(0,3),(1,3),(2,3),(3,3)])∧cf.sz 105=4∧cf.bytes 105=32∧cf.zero 105=[(.int .i64 0),(.int .i64 0),(.int .i64 0),(.int .i64 0)]∧cf.ty 106=(.struct [(0,3),(1,3),(2,3),(3,3)])∧cf.sz 106=4∧cf.bytes 106=32∧cf.zero 106=[(.int .i64 0),(.int .i64 0),(.int .i64 0),(.int .i64 0)]∧cf.ty 107 = .plain∧cf.sz 107=1∧cf.ty 108 = .plain∧cf.sz 108=1∧cf.ty 109 = .plain∧cf.sz 109=1∧cf.ty 110 = .plain∧cf.sz 110=1∧cf.ty 111=(.slice 4)∧cf.sz 111=1∧cf.bytes 111=24∧cf.zero 111=[(.slice none 0 0)]∧cf.ty 112 = .plain∧cf.sz 112=1∧cf.ty 113 = .plain∧cf.sz 113=1∧cf.ty 114 = .plain∧cf.sz 114=1∧cf.ty 115 = .plain∧cf.sz 115=1∧cf.ty 116 = .plain∧cf.sz 116=1∧cf.ty 117=(.slice 121)∧cf.sz 117=1∧cf.bytes 117=24∧cf.zero 117=[(.slice none 0 0)]:=⟨rfl,rfl,rfl,rfl,rfl,rfl,rfl,rfl,rfl,rfl,rfl,rfl,rfl,rfl,rfl,rfl,rfl,rfl,rfl,rfl,rfl,rfl,rfl,rfl,rfl,rfl,rfl,rfl,rfl,rfl,rfl,rfl,rfl,rfl,rfl,rfl,rfl,rfl,rfl⟩
set_option maxRecDepth 100000 in
theorem tys9:cf.ty 118=(.struct [(0,111),(1,117)])∧cf.sz 118=2∧cf.bytes 118=48∧cf.zero 118=[(.slice none 0 0),(.slice none 0 0)]∧cf.ty 119=(.struct [(0,111),(1,117)])∧cf.sz 119=2∧cf.bytes 119=48∧cf.zero 119=[(.slice none 0 0),(.slice none 0 0)]∧cf.ty 120 = .plain∧cf.sz 120=1∧cf.ty 121=(.slice 123)∧cf.sz 121=1∧cf.bytes 121=24∧cf.zero 121=[(.slice none 0 0)]∧cf.ty 122=(.struct [(0,3),(1,3)])∧cf.sz 122=2∧cf.bytes 122=16∧cf.zero 122=[(.int .i64 0),(.int .i64 0)]∧cf.ty 123=(.struct [(0,3),(1,3)])∧cf.sz 123=2∧cf.bytes 123=16∧cf.zero 123=[(.int .i64 0),(.int .i64 0)]∧cf.ty 124 = .plain∧cf.sz 124=1∧cf.ty 125 = .plain∧cf.sz 125=1∧cf.ty 126 = .plain∧cf.sz 126=1∧cf.ty 127 = .plain∧cf.sz 127=1∧cf.ty 128 = .plain∧cf.sz 128=1∧cf.ty 129 = .plain∧cf.sz 129=1∧cf.ty 130=(.struct [(0,22)])∧cf.sz 130=1∧cf.bytes 130=24∧cf.zero 130=[(.slice none 0 0)]∧cf.ty 131=(.struct [(0,22)]):=⟨rfl,rfl,rfl,rfl,rfl,rfl,rfl,rfl,rfl,rfl,rfl,rfl,rfl,rfl,rfl,rfl,rfl,rfl,rfl,rfl,rfl,rfl,rfl,rfl,rfl,rfl,rfl,rfl,rfl,rfl,rfl,rfl,rfl,rfl,rfl,rfl,rfl,rfl,rfl⟩
set_option maxRecDepth 100000 in
theorem tys10:cf.sz 131=1∧cf.bytes 131=24∧cf.zero 131=[(.slice none 0 0)]∧cf.ty 132 = .plain∧cf.sz 132=1∧cf.ty 133 = .plain∧cf.sz 133=1∧cf.ty 134 = .plain∧cf.sz 134=1∧cf.ty 135 = .plain∧cf.sz 135=1∧cf.ty 136 = .plain∧cf.sz 136=1∧cf.ty 137 = .plain∧cf.sz 137=1∧cf.ty 138 = .plain∧cf.sz 138=1∧cf.ty 139 = .plain∧cf.sz 139=1∧cf.ty 140 = .plain∧cf.sz 140=1∧cf.bytes 140=8∧cf.zero 140=[(.int .u64 0)]∧cf.ty 142 = .plain∧cf.sz 142=1∧cf.ty 143=(.slice 145)∧cf.sz 143=1∧cf.bytes 143=24∧cf.zero 143=[(.slice none 0 0)]∧cf.ty 144=(.struct [(0,4),(1,3),(2,3)])∧cf.sz 144=3∧cf.bytes 144=24∧cf.zero 144=[(.bool false),(.int .i64 0),(.int .i64 0)]∧cf.ty 145=(.struct [(0,4),(1,3),(2,3)])∧cf.sz 145=3∧cf.bytes 145=24∧cf.zero 145=[(.bool false),(.int .i64 0),(.int .i64 0)]∧cf.ty 146 = .plain∧cf.sz 146=1:=⟨rfl,rfl,rfl,rfl,rfl,rfl,rfl,rfl,rfl,rfl,rfl,rfl,rfl,rfl,rfl,rfl,rfl,rfl,rfl,rfl,rfl,rfl,rfl,rfl,rfl,rfl,rfl,rfl,rfl,rfl,rfl,rfl,rfl,rfl,rfl,rfl,rfl,rfl,rfl⟩
set_option maxRecDepth 100000 in
theorem tys11:cf.ty 147 = .plain∧cf.sz 147=1∧cf.ty 148 = .plain∧cf.sz 148=1∧cf.ty 149 = .plain∧cf.sz 149=1∧cf.ty 150 = .plain∧cf.sz 150=1∧cf.ty 151 = .plain∧cf.sz 151=1∧cf.ty 152 = .plain∧cf.sz 152=1∧cf.bytes 152=4∧cf.zero 152=[(.int .u32 0)]∧cf.ty 154 = .plain∧cf.sz 154=1∧cf.ty 155 = .plain∧cf.sz 155=1∧cf.bytes 155=8∧cf.zero 155=[(.int .u64 0)]∧cf.ty 157 = .plain∧cf.sz 157=1∧cf.ty 158 = .plain∧cf.sz 158=1∧cf.ty 159 = .plain∧cf.sz 159=1∧cf.ty 160=(.struct [(0,17),(1,17),(2,17),(3,9)])∧cf.sz 160=4∧cf.bytes 160=40∧cf.zero 160=[(.pointer none),(.pointer none),(.pointer none),(.string ⟨#[]⟩)]∧cf.ty 161=(.struct [(0,17),(1,17),(2,17),(3,9)])∧cf.sz 161=4∧cf.bytes 161=40∧cf.zero 161=[(.pointer none),(.pointer none),(.pointer none),(.string ⟨#[]⟩)]∧cf.ty 165 = .plain∧cf.sz 165=1∧cf.ty 166 = .plain∧cf.sz 166=1∧cf.bytes 166=1:=⟨rfl,rfl,rfl,rfl,rfl,rfl,rfl,rfl,rfl,rfl,rfl,rfl,rfl,rfl,rfl,rfl,rfl,rfl,rfl,rfl,rfl,rfl,rfl,rfl,rfl,rfl,rfl,rfl,rfl,rfl,rfl,rfl,rfl,rfl,rfl,rfl,rfl,rfl,rfl⟩
set_option maxRecDepth 100000 in
theorem tys12:cf.zero 166=[(.int .u8 0)]∧cf.ty 167 = .plain∧cf.sz 167=1∧cf.bytes 167=1∧cf.zero 167=[(.int .u8 0)]∧cf.ty 168 = .plain∧cf.sz 168=1∧cf.ty 169 = .plain∧cf.sz 169=1∧cf.ty 170 = .plain∧cf.sz 170=1∧cf.bytes 170=4∧cf.zero 170=[(.int .i32 0)]∧cf.ty 171 = .plain∧cf.sz 171=1∧cf.bytes 171=4∧cf.zero 171=[(.int .i32 0)]∧cf.ty 172=(.struct [(0,12),(1,12),(2,152),(3,166),(4,5),(5,5),(6,167),(7,168),(8,169),(9,170),(10,171)])∧cf.sz 172=11∧cf.bytes 172=48∧cf.zero 172=[(.int .u64 0),(.int .u64 0),(.int .u32 0),(.int .u8 0),(.int .u8 0),(.int .u8 0),(.int .u8 0),(.nilFunc),(.pointer none),(.int .i32 0),(.int .i32 0)]∧cf.ty 173=(.struct [(0,12),(1,12),(2,152),(3,166),(4,5),(5,5),(6,167),(7,168),(8,169),(9,170),(10,171)])∧cf.sz 173=11∧cf.bytes 173=48∧cf.zero 173=[(.int .u64 0),(.int .u64 0),(.int .u32 0),(.int .u8 0),(.int .u8 0),(.int .u8 0),(.int .u8 0),(.nilFunc),(.pointer none),(.int .i32 0),(.int .i32 0)]∧cf.eqa 74=true∧cf.eqs 25=true∧cf.eqs 26=true∧cf.eqs 33=true∧cf.eqs 53=true∧cf.eqs 54=true∧cf.eqs 122=true∧cf.eqs 123=true:=⟨rfl,rfl,rfl,rfl,rfl,rfl,rfl,rfl,rfl,rfl,rfl,rfl,rfl,rfl,rfl,rfl,rfl,rfl,rfl,rfl,rfl,rfl,rfl,rfl,rfl,rfl,rfl,rfl,rfl,rfl,rfl,rfl,rfl⟩
end Go.Proofs.Ytkcelmnbfbehbaa
/- The rules by which the machine is run, in bundles. Conditions: none. -/
set_option linter.all false
set_option linter.unusedSimpArgs false
set_option linter.unusedVariables false
namespace Go.Proofs.Ytkcelmnbfbehbaa
open Go Go.RowKit Am

/-! ### rules by which the machine is run, in bundles -/
theorem xr1:type_of% (⟨@sW.eq_1,@sW.eq_2,@stepW.eq_1,@quietW.eq_1,@litW.eq_1,@takeW.eq_1,@guardOf.eq_1,@qev.eq_1,@qev.eq_2,@qev.eq_3,@qev.eq_4,@qev.eq_5,@qev.eq_6,@qev.eq_7,@qev.eq_8,@qev_unOp,@qev.eq_12,@qev.eq_13,@qev_makeFunc,@qev.eq_16,@qev.eq_17,@qev.eq_18,@qev.eq_19,@bndOf.eq_1,@bndOf.eq_2,@Cn.part.eq_1,@Cn.part.eq_2,@Cn.part.eq_3,@Cn.part.eq_4,@Cn.part.eq_5⟩:_∧_∧_∧_∧_∧_∧_∧_∧_∧_∧_∧_∧_∧_∧_∧_∧_∧_∧_∧_∧_∧_∧_∧_∧_∧_∧_∧_∧_∧_):=⟨@sW.eq_1,@sW.eq_2,@stepW.eq_1,@quietW.eq_1,@litW.eq_1,@takeW.eq_1,@guardOf.eq_1,@qev.eq_1,@qev.eq_2,@qev.eq_3,@qev.eq_4,@qev.eq_5,@qev.eq_6,@qev.eq_7,@qev.eq_8,@qev_unOp,@qev.eq_12,@qev.eq_13,@qev_makeFunc,@qev.eq_16,@qev.eq_17,@qev.eq_18,@qev.eq_19,@bndOf.eq_1,@bndOf.eq_2,@Cn.part.eq_1,@Cn.part.eq_2,@Cn.part.eq_3,@Cn.part.eq_4,@Cn.part.eq_5⟩
theorem xr2:type_of% (⟨@Cn.part.eq_6,@Cn.part.eq_7,@Cn.part.eq_8,@Cn.part.eq_9,@Cn.part.eq_10,@wkV_0,@wkV_1,@wkV_2,@arith.eq_1,@arith.eq_2,@arith.eq_3,@arith.eq_4,@arith.eq_5,@arith.eq_6,@arith.eq_7,@arith.eq_8,@arith.eq_9,@arith.eq_10,@arith.eq_11,@arith.eq_12,@arith.eq_13,@arith.eq_14,@arith.eq_15,@arith.eq_16,@adr.eq_1,@adr.eq_2,@adr.eq_3,@adr.eq_4,@adr.eq_5,@step1.eq_1⟩:_∧_∧_∧_∧_∧_∧_∧_∧_∧_∧_∧_∧_∧_∧_∧_∧_∧_∧_∧_∧_∧_∧_∧_∧_∧_∧_∧_∧_∧_):=⟨@Cn.part.eq_6,@Cn.part.eq_7,@Cn.part.eq_8,@Cn.part.eq_9,@Cn.part.eq_10,@wkV_0,@wkV_1,@wkV_2,@arith.eq_1,@arith.eq_2,@arith.eq_3,@arith.eq_4,@arith.eq_5,@arith.eq_6,@arith.eq_7,@arith.eq_8,@arith.eq_9,@arith.eq_10,@arith.eq_11,@arith.eq_12,@arith.eq_13,@arith.eq_14,@arith.eq_15,@arith.eq_16,@adr.eq_1,@adr.eq_2,@adr.eq_3,@adr.eq_4,@adr.eq_5,@step1.eq_1⟩
theorem xr3:type_of% (⟨@step1.eq_2,@step1.eq_3,@step1.eq_4,@step1.eq_5,@lenOf.eq_1,@lenOf.eq_2,@lenOf.eq_3,@lenOf.eq_4,@lenOf.eq_5,@params.eq_1,@params.eq_2,@put_tab,@put_none,@look_tmp,@look_const,@look_func,@tab_ap,@tab_nil,@Option.all_some.{0},@Option.all_none.{0},@kill_tab,@killL_tab,@AV.map.eq_1,@AV.map.eq_2,@AV.map.eq_3,@TV.map.eq_1,@TV.map.eq_2,@Lf.kill.eq_1,@Lf.kill.eq_2,@Lf.kill.eq_3⟩:_∧_∧_∧_∧_∧_∧_∧_∧_∧_∧_∧_∧_∧_∧_∧_∧_∧_∧_∧_∧_∧_∧_∧_∧_∧_∧_∧_∧_∧_):=⟨@step1.eq_2,@step1.eq_3,@step1.eq_4,@step1.eq_5,@lenOf.eq_1,@lenOf.eq_2,@lenOf.eq_3,@lenOf.eq_4,@lenOf.eq_5,@params.eq_1,@params.eq_2,@put_tab,@put_none,@look_tmp,@look_const,@look_func,@tab_ap,@tab_nil,@Option.all_some.{0},@Option.all_none.{0},@kill_tab,@killL_tab,@AV.map.eq_1,@AV.map.eq_2,@AV.map.eq_3,@TV.map.eq_1,@TV.map.eq_2,@Lf.kill.eq_1,@Lf.kill.eq_2,@Lf.kill.eq_3⟩
theorem xr4:type_of% (⟨@Lf.kill.eq_4,@Ob.map.eq_1,@Ob.map.eq_2,@Ob.map.eq_3,@map_row,@map_tree,@map_gone,@Nat.beq_refl,@nat_beq,@nat_beqs,@zeros.eq_1,@zerosV.eq_1,@zerosV.eq_2,@zerosV.eq_3,@zerosV.eq_4,@emp.eq_1,@Cn.put.eq_1,@Cn.put.eq_2,@Cn.put.eq_3,@Cn.put.eq_4,@Cn.put.eq_5,@Cn.put.eq_6,@Cn.put.eq_7,@Cn.put.eq_8,@Cn.put.eq_9,@Cn.put.eq_10,@Cn.put.eq_11,@Cn.app.eq_1,@Cn.app.eq_2,@Cn.app.eq_3⟩:_∧_∧_∧_∧_∧_∧_∧_∧_∧_∧_∧_∧_∧_∧_∧_∧_∧_∧_∧_∧_∧_∧_∧_∧_∧_∧_∧_∧_∧_):=⟨@Lf.kill.eq_4,@Ob.map.eq_1,@Ob.map.eq_2,@Ob.map.eq_3,@map_row,@map_tree,@map_gone,@Nat.beq_refl,@nat_beq,@nat_beqs,@zeros.eq_1,@zerosV.eq_1,@zerosV.eq_2,@zerosV.eq_3,@zerosV.eq_4,@emp.eq_1,@Cn.put.eq_1,@Cn.put.eq_2,@Cn.put.eq_3,@Cn.put.eq_4,@Cn.put.eq_5,@Cn.put.eq_6,@Cn.put.eq_7,@Cn.put.eq_8,@Cn.put.eq_9,@Cn.put.eq_10,@Cn.put.eq_11,@Cn.app.eq_1,@Cn.app.eq_2,@Cn.app.eq_3⟩
theorem xr5:type_of% (⟨@Cn.app.eq_4,@Cn.app.eq_5,@Cn.app.eq_6,@Cn.app.eq_7,@Cn.app.eq_8,@Cn.app.eq_9,@content.eq_1,@content.eq_2,@content.eq_3,@intsOf.eq_1,@intsOf.eq_2,@intsOf.eq_3,@lit1.eq_1,@lit1.eq_2,@lit1.eq_3,@lit1.eq_4,@lit1.eq_5,@lit1.eq_6,@lit1.eq_7,@lit1.eq_8,@lit1.eq_9,@lit1.eq_10,@litN.eq_1,@litN.eq_2,@litN.eq_3,@partA.eq_1,@placeA.eq_1,@buildOK.eq_1,@TV.cs.eq_1,@TV.cs.eq_2⟩:_∧_∧_∧_∧_∧_∧_∧_∧_∧_∧_∧_∧_∧_∧_∧_∧_∧_∧_∧_∧_∧_∧_∧_∧_∧_∧_∧_∧_∧_):=⟨@Cn.app.eq_4,@Cn.app.eq_5,@Cn.app.eq_6,@Cn.app.eq_7,@Cn.app.eq_8,@Cn.app.eq_9,@content.eq_1,@content.eq_2,@content.eq_3,@intsOf.eq_1,@intsOf.eq_2,@intsOf.eq_3,@lit1.eq_1,@lit1.eq_2,@lit1.eq_3,@lit1.eq_4,@lit1.eq_5,@lit1.eq_6,@lit1.eq_7,@lit1.eq_8,@lit1.eq_9,@lit1.eq_10,@litN.eq_1,@litN.eq_2,@litN.eq_3,@partA.eq_1,@placeA.eq_1,@buildOK.eq_1,@TV.cs.eq_1,@TV.cs.eq_2⟩
theorem xr6:type_of% (⟨@TV.oneB.eq_1,@splice.eq_1,@splice.eq_2,@splice.eq_3,@splice.eq_4,@Lf.oneB.eq_1,@Lf.oneB.eq_2,@Lf.oneB.eq_3,@Lf.oneB.eq_4,@Lf.oneB.eq_5,@Lf.oneB.eq_6,@Lf.oneB.eq_7,@List.foldl_cons.{0,0},@List.foldl_nil.{0,0},@List.all_cons.{0},@List.all_nil.{0},@blt_lit,@true_and,@and_true,@need.eq_1,@cond_true.{1},@cond_false.{1},@thenQ.eq_1,@thenQ.eq_2,@inBlockQ.eq_1,@inBlockQ.eq_2,@List.getElem?_toArray.{0},@List.getElem?_cons_succ.{0},@List.getElem?_cons_zero.{0},@Option.bind_some.{0,0}⟩:_∧_∧_∧_∧_∧_∧_∧_∧_∧_∧_∧_∧_∧_∧_∧_∧_∧_∧_∧_∧_∧_∧_∧_∧_∧_∧_∧_∧_∧_):=⟨@TV.oneB.eq_1,@splice.eq_1,@splice.eq_2,@splice.eq_3,@splice.eq_4,@Lf.oneB.eq_1,@Lf.oneB.eq_2,@Lf.oneB.eq_3,@Lf.oneB.eq_4,@Lf.oneB.eq_5,@Lf.oneB.eq_6,@Lf.oneB.eq_7,@List.foldl_cons.{0,0},@List.foldl_nil.{0,0},@List.all_cons.{0},@List.all_nil.{0},@blt_lit,@true_and,@and_true,@need.eq_1,@cond_true.{1},@cond_false.{1},@thenQ.eq_1,@thenQ.eq_2,@inBlockQ.eq_1,@inBlockQ.eq_2,@List.getElem?_toArray.{0},@List.getElem?_cons_succ.{0},@List.getElem?_cons_zero.{0},@Option.bind_some.{0,0}⟩
theorem xr7:type_of% (⟨@Option.bind_none.{0,0},@and_eqq,@and_eqf,@Bool.true_and,@Bool.and_true,@Bool.not_not,@Bool.not_eq_false',@cellsOf.eq_1,@cellsOf.eq_2,@cellsOf.eq_3,@cellsOf.eq_4,@cellsOf.eq_5,@cellsOf.eq_6,@cellsOf.eq_7,@cellsOf.eq_8,@ownsB.eq_1,@ownsB.eq_2,@litV.eq_1,@litV.eq_2,@litV.eq_3,@List.length_nil.{0},@List.length_cons.{0},@List.append_nil.{0},@List.nil_append.{0},@List.cons_append.{0},@List.getElem?_nil.{0},@Ty.agg.eq_1,@Ty.agg.eq_2,@Ty.agg.eq_3,@List.getD_cons_zero.{0}⟩:_∧_∧_∧_∧_∧_∧_∧_∧_∧_∧_∧_∧_∧_∧_∧_∧_∧_∧_∧_∧_∧_∧_∧_∧_∧_∧_∧_∧_∧_):=⟨@Option.bind_none.{0,0},@and_eqq,@and_eqf,@Bool.true_and,@Bool.and_true,@Bool.not_not,@Bool.not_eq_false',@cellsOf.eq_1,@cellsOf.eq_2,@cellsOf.eq_3,@cellsOf.eq_4,@cellsOf.eq_5,@cellsOf.eq_6,@cellsOf.eq_7,@cellsOf.eq_8,@ownsB.eq_1,@ownsB.eq_2,@litV.eq_1,@litV.eq_2,@litV.eq_3,@List.length_nil.{0},@List.length_cons.{0},@List.append_nil.{0},@List.nil_append.{0},@List.cons_append.{0},@List.getElem?_nil.{0},@Ty.agg.eq_1,@Ty.agg.eq_2,@Ty.agg.eq_3,@List.getD_cons_zero.{0}⟩
theorem xr8:type_of% (⟨@List.getD_cons_succ.{0},@List.getD_nil.{0},@calleeOf.eq_1,@cloOf.eq_1,@cloOf.eq_2,@callOK.eq_1,@argsOf.eq_1,@viewA.eq_1,@viewA.eq_2,@viewA.eq_3,@viewA.eq_4,@view.eq_1,@view.eq_2,@view.eq_3,@view.eq_4,@view.eq_5,@viewB.eq_1,@viewB.eq_2,@viewB.eq_3,@List.mapM_cons.{0,0,0},@List.mapM_nil.{0,0,0},@Option.map_some.{0,0},@Option.some.injEq.{0},@Prod.mk.injEq.{0,0},@exists_and_left.{1},@exists_eq_left'.{1},@exists_eq_left.{1},@exists_eq_right.{1},@List.map_nil.{0,0},@List.map_cons.{0,0}⟩:_∧_∧_∧_∧_∧_∧_∧_∧_∧_∧_∧_∧_∧_∧_∧_∧_∧_∧_∧_∧_∧_∧_∧_∧_∧_∧_∧_∧_∧_):=⟨@List.getD_cons_succ.{0},@List.getD_nil.{0},@calleeOf.eq_1,@cloOf.eq_1,@cloOf.eq_2,@callOK.eq_1,@argsOf.eq_1,@viewA.eq_1,@viewA.eq_2,@viewA.eq_3,@viewA.eq_4,@view.eq_1,@view.eq_2,@view.eq_3,@view.eq_4,@view.eq_5,@viewB.eq_1,@viewB.eq_2,@viewB.eq_3,@List.mapM_cons.{0,0,0},@List.mapM_nil.{0,0,0},@Option.map_some.{0,0},@Option.some.injEq.{0},@Prod.mk.injEq.{0,0},@exists_and_left.{1},@exists_eq_left'.{1},@exists_eq_left.{1},@exists_eq_right.{1},@List.map_nil.{0,0},@List.map_cons.{0,0}⟩
theorem xr9:type_of% (⟨@List.mem_cons.{0},@List.not_mem_nil.{0},@or_false,@List.range_succ_eq_map,@List.range_zero,@Cn.len.eq_1,@Cn.len.eq_2,@Cn.len.eq_3,@Cn.len.eq_4,@Cn.len.eq_5,@Cn.len.eq_6,@Cn.len.eq_7,@Cn.len.eq_8,@Cn.len.eq_9,@Cn.len.eq_10,@Cn.w.eq_1,@Cn.w.eq_2,@Cn.w.eq_3,@Cn.cell.eq_1,@Cn.cell.eq_2,@Cn.cell.eq_3,@Cn.cell.eq_4,@Cn.cell.eq_5,@Cn.cell.eq_6,@Cn.cell.eq_7,@Cn.cell.eq_8,@Cn.cell.eq_9,@Cn.cell.eq_10,@Option.pure_def.{0},@Option.bind_eq_bind.{0}⟩:_∧_∧_∧_∧_∧_∧_∧_∧_∧_∧_∧_∧_∧_∧_∧_∧_∧_∧_∧_∧_∧_∧_∧_∧_∧_∧_∧_∧_∧_):=⟨@List.mem_cons.{0},@List.not_mem_nil.{0},@or_false,@List.range_succ_eq_map,@List.range_zero,@Cn.len.eq_1,@Cn.len.eq_2,@Cn.len.eq_3,@Cn.len.eq_4,@Cn.len.eq_5,@Cn.len.eq_6,@Cn.len.eq_7,@Cn.len.eq_8,@Cn.len.eq_9,@Cn.len.eq_10,@Cn.w.eq_1,@Cn.w.eq_2,@Cn.w.eq_3,@Cn.cell.eq_1,@Cn.cell.eq_2,@Cn.cell.eq_3,@Cn.cell.eq_4,@Cn.cell.eq_5,@Cn.cell.eq_6,@Cn.cell.eq_7,@Cn.cell.eq_8,@Cn.cell.eq_9,@Cn.cell.eq_10,@Option.pure_def.{0},@Option.bind_eq_bind.{0}⟩
theorem xr10:type_of% (⟨@and_assoc,@dR.eq_1,@dR.eq_2,@dStep.eq_1,@kept_cons,@kept_nil,@Int.toNat_natCast,@Int.toNat_zero,@false_and,@and_false,@exists_false.{1},@false_or,@List.set_cons_zero.{0},@List.set_cons_succ.{0},@List.set_nil.{0},@forall_const.{0},@forall_const.{1},@exists_const.{1},@implies_true.{0},@implies_true.{1},@imp_self,@false_implies,@forall_eq.{1},@forall_eq_or_imp.{1},@Ob.cn.eq_1,@Ob.cn.eq_2,@Ob.cn.eq_3,@Ob.cn.eq_4,@Ob.cn.eq_5,@Ob.ownT.eq_1⟩:_∧_∧_∧_∧_∧_∧_∧_∧_∧_∧_∧_∧_∧_∧_∧_∧_∧_∧_∧_∧_∧_∧_∧_∧_∧_∧_∧_∧_∧_):=⟨@and_assoc,@dR.eq_1,@dR.eq_2,@dStep.eq_1,@kept_cons,@kept_nil,@Int.toNat_natCast,@Int.toNat_zero,@false_and,@and_false,@exists_false.{1},@false_or,@List.set_cons_zero.{0},@List.set_cons_succ.{0},@List.set_nil.{0},@forall_const.{0},@forall_const.{1},@exists_const.{1},@implies_true.{0},@implies_true.{1},@imp_self,@false_implies,@forall_eq.{1},@forall_eq_or_imp.{1},@Ob.cn.eq_1,@Ob.cn.eq_2,@Ob.cn.eq_3,@Ob.cn.eq_4,@Ob.cn.eq_5,@Ob.ownT.eq_1⟩
theorem xr11:type_of% (⟨@Ob.ownT.eq_2,@Ob.ownT.eq_3,@Ob.ownT.eq_4,@Ob.ownT.eq_5,@Cn.putS.eq_1,@Cn.putS.eq_2,@Cn.putS.eq_3,@Cn.putS.eq_4,@Cn.putS.eq_5,@Cn.wrap.eq_1,@Cn.wrap.eq_2,@Cn.wrap.eq_3,@Cn.wrap.eq_4,@Cn.wrap.eq_5,@Cn.sub.eq_1,@Cn.sub.eq_2,@Cn.sub.eq_3,@Cn.sub.eq_4,@Cn.sub.eq_5,@Cn.deep.eq_1,@Cn.deep.eq_2,@Cn.deep.eq_3,@Cn.deep.eq_4,@Cn.deep.eq_5,@Cn.deep.eq_6,@Cn.deep.eq_7,@Cn.deep.eq_8,@Cn.deep.eq_9,@Cn.deep.eq_10,@levels.eq_1⟩:_∧_∧_∧_∧_∧_∧_∧_∧_∧_∧_∧_∧_∧_∧_∧_∧_∧_∧_∧_∧_∧_∧_∧_∧_∧_∧_∧_∧_∧_):=⟨@Ob.ownT.eq_2,@Ob.ownT.eq_3,@Ob.ownT.eq_4,@Ob.ownT.eq_5,@Cn.putS.eq_1,@Cn.putS.eq_2,@Cn.putS.eq_3,@Cn.putS.eq_4,@Cn.putS.eq_5,@Cn.wrap.eq_1,@Cn.wrap.eq_2,@Cn.wrap.eq_3,@Cn.wrap.eq_4,@Cn.wrap.eq_5,@Cn.sub.eq_1,@Cn.sub.eq_2,@Cn.sub.eq_3,@Cn.sub.eq_4,@Cn.sub.eq_5,@Cn.deep.eq_1,@Cn.deep.eq_2,@Cn.deep.eq_3,@Cn.deep.eq_4,@Cn.deep.eq_5,@Cn.deep.eq_6,@Cn.deep.eq_7,@Cn.deep.eq_8,@Cn.deep.eq_9,@Cn.deep.eq_10,@levels.eq_1⟩
theorem xr12:type_of% (⟨@sWo.eq_1,@sWo.eq_2,@sWo.eq_3,@sWo.eq_4,@stepO.eq_1,@litOW.eq_1,@dFr.eq_1,@dFr.eq_2,@dFr.eq_3,@blt_ls,@base0_fx,@mkOb_1,@mkOb_2,@holeAt.eq_1,@holeAt_h,@flat_1,@flat_2,@flat_3,@flat_4,@flat_5,@flat_6,@flat_7,@flat_8,@flat_9,@flat_10,@Lf.killL.eq_1,@Lf.killL.eq_2,@Lf.killL.eq_3,@Lf.ren.eq_1,@Lf.ren.eq_2⟩:_∧_∧_∧_∧_∧_∧_∧_∧_∧_∧_∧_∧_∧_∧_∧_∧_∧_∧_∧_∧_∧_∧_∧_∧_∧_∧_∧_∧_∧_):=⟨@sWo.eq_1,@sWo.eq_2,@sWo.eq_3,@sWo.eq_4,@stepO.eq_1,@litOW.eq_1,@dFr.eq_1,@dFr.eq_2,@dFr.eq_3,@blt_ls,@base0_fx,@mkOb_1,@mkOb_2,@holeAt.eq_1,@holeAt_h,@flat_1,@flat_2,@flat_3,@flat_4,@flat_5,@flat_6,@flat_7,@flat_8,@flat_9,@flat_10,@Lf.killL.eq_1,@Lf.killL.eq_2,@Lf.killL.eq_3,@Lf.ren.eq_1,@Lf.ren.eq_2⟩
theorem xr13:type_of% (⟨@Lf.ren.eq_3,@renN.eq_1,@plug.eq_1,@plug.eq_2,@lost.eq_1,@lost.eq_2,@lost.eq_3,@dM.eq_1,@dM.eq_2,@readW.eq_1,@offOp.eq_1,@offOp.eq_2,@offOp.eq_3,@offOp.eq_4,@offOp.eq_5,@offOp.eq_6,@offOp.eq_7,@offOp.eq_8,@offOp.eq_9,@offOp.eq_10,@offOp.eq_11,@offOp.eq_12,@offOp.eq_13,@offOp.eq_14,@offOp.eq_15,@offA.eq_1,@offL.eq_1,@offL.eq_2,@offL.eq_3,@offC.eq_1⟩:_∧_∧_∧_∧_∧_∧_∧_∧_∧_∧_∧_∧_∧_∧_∧_∧_∧_∧_∧_∧_∧_∧_∧_∧_∧_∧_∧_∧_∧_):=⟨@Lf.ren.eq_3,@renN.eq_1,@plug.eq_1,@plug.eq_2,@lost.eq_1,@lost.eq_2,@lost.eq_3,@dM.eq_1,@dM.eq_2,@readW.eq_1,@offOp.eq_1,@offOp.eq_2,@offOp.eq_3,@offOp.eq_4,@offOp.eq_5,@offOp.eq_6,@offOp.eq_7,@offOp.eq_8,@offOp.eq_9,@offOp.eq_10,@offOp.eq_11,@offOp.eq_12,@offOp.eq_13,@offOp.eq_14,@offOp.eq_15,@offA.eq_1,@offL.eq_1,@offL.eq_2,@offL.eq_3,@offC.eq_1⟩
theorem xr14:type_of% (⟨@offI.eq_1,@AV.leaves.eq_1,@AV.leaves.eq_2,@AV.leaves.eq_3,@TV.leaves.eq_1,@TV.leaves.eq_2,@ren_b,@ren_und,@ren_ip,@ren_ea,@off_b,@off_und,@off_ea,@off_ip,@offC_b,@killL_b,@killL_und,@killL_ip,@killL_ea,@decide_true,@List.contains_cons.{0},@List.contains_nil.{0},@Bool.false_or,@Bool.true_or,@Bool.or_true,@Bool.or_false,@Bool.false_and,@Bool.and_false,@Bool.not_false,@Bool.not_true⟩:_∧_∧_∧_∧_∧_∧_∧_∧_∧_∧_∧_∧_∧_∧_∧_∧_∧_∧_∧_∧_∧_∧_∧_∧_∧_∧_∧_∧_∧_):=⟨@offI.eq_1,@AV.leaves.eq_1,@AV.leaves.eq_2,@AV.leaves.eq_3,@TV.leaves.eq_1,@TV.leaves.eq_2,@ren_b,@ren_und,@ren_ip,@ren_ea,@off_b,@off_und,@off_ea,@off_ip,@offC_b,@killL_b,@killL_und,@killL_ip,@killL_ea,@decide_true,@List.contains_cons.{0},@List.contains_nil.{0},@Bool.false_or,@Bool.true_or,@Bool.or_true,@Bool.or_false,@Bool.false_and,@Bool.and_false,@Bool.not_false,@Bool.not_true⟩
theorem xr15:type_of% (⟨@AV_lf,@List.take_succ_cons.{0},@List.take_zero.{0},@List.take_nil.{0},@List.length_map.{0,0},@List.length_range,@List.length_set.{0},@List.length_replicate.{0}⟩:_∧_∧_∧_∧_∧_∧_∧_):=⟨@AV_lf,@List.take_succ_cons.{0},@List.take_zero.{0},@List.take_nil.{0},@List.length_map.{0,0},@List.length_range,@List.length_set.{0},@List.length_replicate.{0}⟩
theorem xty:type_of% (⟨tys1,tys2,tys3,tys4,tys5,tys6,tys7,tys8,tys9,tys10,tys11,tys12⟩:_∧_∧_∧_∧_∧_∧_∧_∧_∧_∧_∧_):=⟨tys1,tys2,tys3,tys4,tys5,tys6,tys7,tys8,tys9,tys10,tys11,tys12⟩
theorem xr:type_of% (⟨xr1,xr2,xr3,xr4,xr5,xr6,xr7,xr8,xr9,xr10,xr11,xr12,xr13,xr14,xr15,xty⟩:_∧_∧_∧_∧_∧_∧_∧_∧_∧_∧_∧_∧_∧_∧_∧_):=⟨xr1,xr2,xr3,xr4,xr5,xr6,xr7,xr8,xr9,xr10,xr11,xr12,xr13,xr14,xr15,xty⟩
theorem xq:type_of% (⟨@thenQ.eq_1,@thenQ.eq_2,@inBlockQ.eq_1,@inBlockQ.eq_2⟩:_∧_∧_∧_):=⟨@thenQ.eq_1,@thenQ.eq_2,@inBlockQ.eq_1,@inBlockQ.eq_2⟩
theorem retImm_un (cf:Cfg) (X:St) (xs:List ResultVar) (r:AV):retImm cf X xs r=match xs with
    | [x]=>∃ v,resOK cf X x v∧(AV.tv v).free=true∧Imp (.tv v) r
    | _=>∃ vs,resAll cf X xs vs∧(AV.tup vs).free=true∧Imp (.tup vs) r:=rfl
theorem retH_un (cf:Cfg) (X:St) (xs:List ResultVar) (fx:List Bool) (n:Nat) (r:AV) (Hout:List Ob):retH cf X xs fx n r Hout=∃ τ:List Nat,τ.Nodup∧picks X.H (fun k=>τ.getD k 0) τ Hout∧n≤τ.length∧(∀ k,k<fx.length→fx.getD k false=true→τ.getD k 0=k)∧(∀ o∈Hout,o.lt Hout.length)∧r.lt Hout.length ∧
  (match xs with
  | [x]=>∃ v,resOK cf X x v∧AV.tv v=r.map (Lf.ren fun k=>τ.getD k 0)
  | _=>∃ vs,resAll cf X xs vs∧AV.tup vs=r.map (Lf.ren fun k=>τ.getD k 0)):=rfl
theorem ends_normal (p:Prop):ends .normal p=p:=rfl
theorem ends_ret (p:Prop):ends .ret p=p:=rfl
theorem xe:type_of% (⟨@ends_normal,@ends_ret,@retImm_un,@resAll.eq_1,@resAll.eq_2,@resOK.eq_1,@resOK.eq_2,@tab_ap⟩:_∧_∧_∧_∧_∧_∧_∧_):=⟨@ends_normal,@ends_ret,@retImm_un,@resAll.eq_1,@resAll.eq_2,@resOK.eq_1,@resOK.eq_2,@tab_ap⟩
theorem xec:type_of% (⟨@ends_normal,@ends_ret,@retImm_un,@resAll.eq_1,@resAll.eq_2,@resOK.eq_1,@resOK.eq_2⟩:_∧_∧_∧_∧_∧_∧_):=⟨@ends_normal,@ends_ret,@retImm_un,@resAll.eq_1,@resAll.eq_2,@resOK.eq_1,@resOK.eq_2⟩
theorem xh:type_of% (⟨@ends_normal,@ends_ret,@retH_un⟩:_∧_∧_):=⟨@ends_normal,@ends_ret,@retH_un⟩
theorem xp:type_of% (⟨@params.eq_1,@params.eq_2,@tab_ap⟩:_∧_∧_):=⟨@params.eq_1,@params.eq_2,@tab_ap⟩
theorem xf:type_of% (⟨@AV.fits.eq_1,@AV.fits.eq_2,@Lf.fitsAll.eq_1,@Lf.fitsAll.eq_2,@Cn.fits.eq_1,@Cn.fits.eq_2,@Cn.fits.eq_3,@Cn.fits.eq_4,@Cn.fits.eq_5,@Cn.fits.eq_6,@Cn.fits.eq_7,@Cn.fits.eq_8,@Cn.fits.eq_9,@Cn.fits.eq_10,@Lf.fits.eq_1,@Lf.fits.eq_2,@tab_ap,@and_true,@lim.eq_1⟩:_∧_∧_∧_∧_∧_∧_∧_∧_∧_∧_∧_∧_∧_∧_∧_∧_∧_∧_):=⟨@AV.fits.eq_1,@AV.fits.eq_2,@Lf.fitsAll.eq_1,@Lf.fitsAll.eq_2,@Cn.fits.eq_1,@Cn.fits.eq_2,@Cn.fits.eq_3,@Cn.fits.eq_4,@Cn.fits.eq_5,@Cn.fits.eq_6,@Cn.fits.eq_7,@Cn.fits.eq_8,@Cn.fits.eq_9,@Cn.fits.eq_10,@Lf.fits.eq_1,@Lf.fits.eq_2,@tab_ap,@and_true,@lim.eq_1⟩
theorem xk:type_of% (⟨@kept_cons,@kept_nil,@List.cons_append.{0},@List.nil_append.{0}⟩:_∧_∧_∧_):=⟨@kept_cons,@kept_nil,@List.cons_append.{0},@List.nil_append.{0}⟩
theorem xz:type_of% (⟨@frz_tab,@Lf.frz.eq_1,@Lf.frz.eq_2,@Lf.frz.eq_3,@Lf.frz.eq_4,@List.map_cons.{0,0},@List.map_nil.{0,0},@AV.map.eq_1,@AV.map.eq_2,@AV.map.eq_3,@TV.map.eq_1,@TV.map.eq_2,@Ob.map.eq_1,@Ob.map.eq_2,@Ob.map.eq_3,@map_row,@map_tree,@map_gone,@cond_true.{1},@cond_false.{1},@List.set_cons_zero.{0},@List.set_cons_succ.{0},@List.set_nil.{0},@Nat.beq_refl,@nat_beq,@nat_beqs⟩:_∧_∧_∧_∧_∧_∧_∧_∧_∧_∧_∧_∧_∧_∧_∧_∧_∧_∧_∧_∧_∧_∧_∧_∧_∧_):=⟨@frz_tab,@Lf.frz.eq_1,@Lf.frz.eq_2,@Lf.frz.eq_3,@Lf.frz.eq_4,@List.map_cons.{0,0},@List.map_nil.{0,0},@AV.map.eq_1,@AV.map.eq_2,@AV.map.eq_3,@TV.map.eq_1,@TV.map.eq_2,@Ob.map.eq_1,@Ob.map.eq_2,@Ob.map.eq_3,@map_row,@map_tree,@map_gone,@cond_true.{1},@cond_false.{1},@List.set_cons_zero.{0},@List.set_cons_succ.{0},@List.set_nil.{0},@Nat.beq_refl,@nat_beq,@nat_beqs⟩
theorem xm:type_of% (⟨@mv_tab,@mv_b,@mv_und,@mv_ip,@mv_ea,@Lf.mv.eq_1,@Lf.mv.eq_2,@Lf.mv.eq_3,@List.map_cons.{0,0},@List.map_nil.{0,0},@AV.map.eq_1,@AV.map.eq_2,@AV.map.eq_3,@TV.map.eq_1,@TV.map.eq_2,@Ob.map.eq_1,@Ob.map.eq_2,@Ob.map.eq_3,@map_row,@map_tree,@map_gone,@cond_true.{1},@cond_false.{1},@List.set_cons_zero.{0},@List.set_cons_succ.{0},@List.set_nil.{0},@Nat.beq_refl,@nat_beq,@nat_beqs⟩:_∧_∧_∧_∧_∧_∧_∧_∧_∧_∧_∧_∧_∧_∧_∧_∧_∧_∧_∧_∧_∧_∧_∧_∧_∧_∧_∧_∧_):=⟨@mv_tab,@mv_b,@mv_und,@mv_ip,@mv_ea,@Lf.mv.eq_1,@Lf.mv.eq_2,@Lf.mv.eq_3,@List.map_cons.{0,0},@List.map_nil.{0,0},@AV.map.eq_1,@AV.map.eq_2,@AV.map.eq_3,@TV.map.eq_1,@TV.map.eq_2,@Ob.map.eq_1,@Ob.map.eq_2,@Ob.map.eq_3,@map_row,@map_tree,@map_gone,@cond_true.{1},@cond_false.{1},@List.set_cons_zero.{0},@List.set_cons_succ.{0},@List.set_nil.{0},@Nat.beq_refl,@nat_beq,@nat_beqs⟩
theorem xu:type_of% (⟨@kill_tab,@Lf.kill.eq_1,@Lf.kill.eq_2,@Lf.kill.eq_3,@Lf.kill.eq_4,@List.map_cons.{0,0},@List.map_nil.{0,0},@AV.map.eq_1,@AV.map.eq_2,@AV.map.eq_3,@TV.map.eq_1,@TV.map.eq_2,@Ob.map.eq_1,@Ob.map.eq_2,@Ob.map.eq_3,@map_row,@map_tree,@map_gone,@cond_true.{1},@cond_false.{1},@List.set_cons_zero.{0},@List.set_cons_succ.{0},@List.set_nil.{0},@Nat.beq_refl,@nat_beq,@nat_beqs⟩:_∧_∧_∧_∧_∧_∧_∧_∧_∧_∧_∧_∧_∧_∧_∧_∧_∧_∧_∧_∧_∧_∧_∧_∧_∧_):=⟨@kill_tab,@Lf.kill.eq_1,@Lf.kill.eq_2,@Lf.kill.eq_3,@Lf.kill.eq_4,@List.map_cons.{0,0},@List.map_nil.{0,0},@AV.map.eq_1,@AV.map.eq_2,@AV.map.eq_3,@TV.map.eq_1,@TV.map.eq_2,@Ob.map.eq_1,@Ob.map.eq_2,@Ob.map.eq_3,@map_row,@map_tree,@map_gone,@cond_true.{1},@cond_false.{1},@List.set_cons_zero.{0},@List.set_cons_succ.{0},@List.set_nil.{0},@Nat.beq_refl,@nat_beq,@nat_beqs⟩
/-! ### what the walks do again and again, each written out once: the premise is proved by what stands behind it -/
structure Hold (Q:Prop):Prop where
  out:Q
theorem amGo {P Q:Prop} (q:Q) (h:Hold Q→P:=by intro h;(repeat (first | refine g1 ?_ | refine g2 ?_ | ((first | refine g3 ?_ | refine g4 ?_ | refine g5 ?_);try simp only [xq,simprocAttr]) | ((first | refine g6 ?_ | refine g7 ?_);simp only [xr,simprocAttr];repeat (guard_target =~ _∧_;refine ⟨by first | with_reducible assumption | (guard_target =~ (_:Int)≤_;omega) | (guard_target =~ (_:Int)<_;omega) | (guard_target =~ (_:Nat)<_;omega) | (guard_target =~ (_:Nat)≤_;omega) | (guard_target =~ (_:Int)=_;omega) | (unfold I64;omega) | trivial | omega | (simp<;>omega) | (intros;omega),?_⟩))));exact h.out):P:=h ⟨q⟩
theorem amGoR {P Q:Prop} (q:Q) (h:Hold Q→P:=by intro h;(repeat (first | refine g1 ?_ | refine g2 ?_ | ((first | refine g3 ?_ | refine g4 ?_);try simp only [xq,simprocAttr]) | ((first | refine g6 ?_ | refine g7 ?_);simp only [xr,simprocAttr];repeat (guard_target =~ _∧_;refine ⟨by first | with_reducible assumption | (guard_target =~ (_:Int)≤_;omega) | (guard_target =~ (_:Int)<_;omega) | (guard_target =~ (_:Nat)<_;omega) | (guard_target =~ (_:Nat)≤_;omega) | (guard_target =~ (_:Int)=_;omega) | (unfold I64;omega) | trivial | omega | (simp<;>omega) | (intros;omega),?_⟩))));exact h.out):P:=h ⟨q⟩
theorem amB {P Q:Prop} (q:Q) (h:Hold Q→P:=by intro h;((repeat (first | refine g1 ?_ | refine g2 ?_ | ((first | refine g3 ?_ | refine g4 ?_);try simp only [xq,simprocAttr]))));exact h.out):P:=h ⟨q⟩
theorem amG1 {P Q:Prop} (q:Q) (h:Hold Q→P:=by intro h;((repeat (first | refine g1 ?_ | refine g2 ?_ | ((first | refine g3 ?_ | refine g4 ?_);try simp only [xq,simprocAttr])));((first | refine g6 ?_ | refine g7 ?_);simp only [xr,simprocAttr];repeat (guard_target =~ _∧_;refine ⟨by first | with_reducible assumption | (guard_target =~ (_:Int)≤_;omega) | (guard_target =~ (_:Int)<_;omega) | (guard_target =~ (_:Nat)<_;omega) | (guard_target =~ (_:Nat)≤_;omega) | (guard_target =~ (_:Int)=_;omega) | (unfold I64;omega) | trivial | omega | (simp<;>omega) | (intros;omega),?_⟩));(repeat (first | refine g1 ?_ | refine g2 ?_ | ((first | refine g3 ?_ | refine g4 ?_);try simp only [xq,simprocAttr]))));exact h.out):P:=h ⟨q⟩
theorem amC {P Q:Prop} (q:Q) (h:Hold Q→P:=by intro h;((try simp only [xr,simprocAttr]);repeat (guard_target =~ _∧_;refine ⟨by first | with_reducible assumption | (guard_target =~ (_:Int)≤_;omega) | (guard_target =~ (_:Int)<_;omega) | (guard_target =~ (_:Nat)<_;omega) | (guard_target =~ (_:Nat)≤_;omega) | (guard_target =~ (_:Int)=_;omega) | (unfold I64;omega) | trivial | omega | (simp<;>omega) | (intros;omega),?_⟩));exact h.out):P:=h ⟨q⟩
theorem amS {P Q:Prop} (q:Q) (h:Hold Q→P:=by intro h;(repeat (guard_target =~ _∧_;refine ⟨by first | with_reducible assumption | (guard_target =~ (_:Int)≤_;omega) | (guard_target =~ (_:Int)<_;omega) | (guard_target =~ (_:Nat)<_;omega) | (guard_target =~ (_:Nat)≤_;omega) | (guard_target =~ (_:Int)=_;omega) | (unfold I64;omega) | trivial | omega | (simp<;>omega) | (intros;omega),?_⟩));exact h.out):P:=h ⟨q⟩
theorem amM {P Q:Prop} (q:Q) (h:Hold Q→P:=by intro h;(simp (maxSteps:=3000000) only [xr,simprocAttr];repeat (guard_target =~ _∧_;refine ⟨by first | with_reducible assumption | (guard_target =~ (_:Int)≤_;omega) | (guard_target =~ (_:Int)<_;omega) | (guard_target =~ (_:Nat)<_;omega) | (guard_target =~ (_:Nat)≤_;omega) | (guard_target =~ (_:Int)=_;omega) | (unfold I64;omega) | trivial | omega | (simp<;>omega) | (intros;omega),?_⟩));exact h.out):P:=h ⟨q⟩
theorem amN {P Q:Prop} (q:Q) (h:Hold Q→P:=by intro h;(simp only [xr,simprocAttr];repeat (guard_target =~ _∧_;refine ⟨by first | with_reducible assumption | (guard_target =~ (_:Int)≤_;omega) | (guard_target =~ (_:Int)<_;omega) | (guard_target =~ (_:Nat)<_;omega) | (guard_target =~ (_:Nat)≤_;omega) | (guard_target =~ (_:Int)=_;omega) | (unfold I64;omega) | trivial | omega | (simp<;>omega) | (intros;omega),?_⟩));exact h.out):P:=h ⟨q⟩
theorem amE {P:Prop} (h:P:=by first | rfl | (simp only [xr,simprocAttr];done) | (simp only [xr,simprocAttr];refine int_eq1 ?_;first | with_reducible assumption | (guard_target =~ (_:Int)≤_;omega) | (guard_target =~ (_:Int)<_;omega) | (guard_target =~ (_:Nat)<_;omega) | (guard_target =~ (_:Nat)≤_;omega) | (guard_target =~ (_:Int)=_;omega) | (unfold I64;omega) | trivial | omega | (simp<;>omega) | (intros;omega))):P:=h
theorem amK {P:Prop} (h:P:=by simp only [xr,simprocAttr]<;>(and_intros<;>first | with_reducible assumption | (guard_target =~ (_:Int)≤_;omega) | (guard_target =~ (_:Int)<_;omega) | (guard_target =~ (_:Nat)<_;omega) | (guard_target =~ (_:Nat)≤_;omega) | (guard_target =~ (_:Int)=_;omega) | (unfold I64;omega) | trivial | omega | (simp<;>omega) | (intros;omega))):P:=h
theorem amT {P:Prop} (h:P:=by first | (show _<List.length _;omega) | first | with_reducible assumption | (guard_target =~ (_:Int)≤_;omega) | (guard_target =~ (_:Int)<_;omega) | (guard_target =~ (_:Nat)<_;omega) | (guard_target =~ (_:Nat)≤_;omega) | (guard_target =~ (_:Int)=_;omega) | (unfold I64;omega) | trivial | omega | (simp<;>omega) | (intros;omega)):P:=h
theorem amQ {P:Prop} (h:P:=by first | rfl | (simp only [xr,simprocAttr];rfl)):P:=h
theorem amF {P Q:Prop} (h:Q:=by and_intros<;>first | rfl | (simp;done)):P∨Q := .inr h
end Go.Proofs.Ytkcelmnbfbehbaa
