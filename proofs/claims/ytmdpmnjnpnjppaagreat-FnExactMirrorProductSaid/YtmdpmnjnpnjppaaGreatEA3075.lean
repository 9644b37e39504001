/- The program's operations on plain typed data, that the machine does the same, what the functions come to, and what they give (part 5). No condition. -/
import Derived.Test.YtmdpmnjnpnjppaaGreatEA3074
set_option linter.unusedVariables false
set_option linter.unusedSimpArgs false
namespace Go.Proofs.YtmdpmnjnpnjppaaGreatEv
open Go Go.RowKit
theorem iter_run {S α : Type} {step:S->(S->Option α)->Option α} {r:Option α}:∀ (n F:Nat) (st:Nat->S),n < F->(∀ i,i < n->∀ k,step (st i) k = k (st (i + 1)))->(∀ k,step (st n) k = r)->iter step F (st 0) = r
  | 0,F,st,hF,_,h => by
    obtain ⟨F,rfl⟩:∃ f,F = f + 1:=⟨F - 1,by omega⟩
    exact h _
  | n + 1,F,st,hF,h1,h => by
    obtain ⟨F,rfl⟩:∃ f,F = f + 1:=⟨F - 1,by omega⟩
    simp only [iter]
    rw [h1 0 (by omega)]
    exact iter_run n F (fun i => st (i + 1)) (by omega) (fun i hi k => h1 (i + 1) (by omega) k) h
theorem dlt_t {a b:Int} (h:a < b):decide (a < b) = true:=decide_eq_true h
theorem dlt_f {a b:Int} (h:b ≤ a):decide (a < b) = false:=decide_eq_false (by omega)
theorem dle_t {a b:Int} (h:a ≤ b):decide (a ≤ b) = true:=decide_eq_true h
theorem dle_f {a b:Int} (h:b < a):decide (a ≤ b) = false:=decide_eq_false (by omega)
theorem dln_t {a b:Nat} (h:a ≤ b):decide (a ≤ b) = true:=decide_eq_true h
theorem deq_t {a b:Int} (h:a = b):decide (a = b) = true:=decide_eq_true h
theorem deq_f {a b:Int} (h:a ≠ b):decide (a = b) = false:=decide_eq_false h
theorem ib_t {i n:Int} (h0 : 0 ≤ i) (h1:i < n):ib i n = true:=by simp [ib,h0,h1]
theorem w6_id {x:Int} (h0 : -9223372036854775808 ≤ x) (h1:x ≤ 9223372036854775807):w6 x = x:=by
  simp [w6,IntKind.wrap,IntKind.bits,IntKind.signed]; split <;> omega
theorem grow_t {a b:Nat} (h:a + b ≤ 1099511627776):growOk a b = true:=decide_eq_true h
theorem ofn (n:Nat):Int.ofNat n = (n:Int):=rfl
theorem tn_cast (n:Nat):tn (n:Int) = n:=rfl
theorem tmod_md {p x:Int} (hp : 0 < p):Int.tmod (Int.tmod x p + p) p = x % p ∧ -p < Int.tmod x p ∧ Int.tmod x p < p:=by
  have h1:=Int.natAbs_tmod x p
  have h2:x.natAbs % p.natAbs < p.natAbs:=Nat.mod_lt _ (by omega)
  have h3:=Int.tmod_add_mul_tdiv x p
  have h4 : -p < Int.tmod x p ∧ Int.tmod x p < p:=by omega
  refine ⟨?_,h4⟩
  rw [Int.tmod_eq_emod_of_nonneg (by omega),Int.add_emod_right]
  conv => rhs; rw [← h3]
  rw [Int.add_mul_emod_self_left]
theorem md_rng {p x:Int} (hp : 0 < p) : 0 ≤ x % p ∧ x % p < p:=⟨Int.emod_nonneg _ (by omega),Int.emod_lt_of_pos _ hp⟩
abbrev B:Nat:=1000000
def c74 (p a:Int):Option (Int × Unit):=if 0 < p ∧ p ≤ 1000000 ∧ -1000000000000000000 ≤ a ∧ a ≤ 1000000000000000000 then some (a % p,()) else none
def cf74:Args [.v i64,.v i64]->Option R219:=fun x => c74 x.1 x.2.1
theorem k74:KOne Tryz.prog 219 ⟨[.v i64,.v i64],[i64],false,false,0,cf74⟩:=ok219 .nil cf74 fun x y h => by
  obtain ⟨p,a,_⟩:=x
  simp only [cf74,c74] at h
  split at h
  · rename_i hc
    injection h with h; subst h
    refine ⟨0,?_⟩
    obtain ⟨h1,h2,h3⟩:=tmod_md (p:=p) (x:=a) (by omega)
    simp (disch:=omega) only [fn219,deq_f,Bool.not_false,cond_true,w6_id,h1]
  · cases h
def cf82:Args [.v i64]->Option R155:=fun x => some (isP x.1,())
theorem isP_text (a b c d e f:Bool):(bif a then (some (true,())) else (bif (bif false then true else b) then (some (true,())) else (bif (bif false then true else c) then (some (true,())) else (bif (bif false then true else d) then (some (true,())) else (bif (bif false then true else e) then (some (true,())) else (some ((bif false then true else f),()))))))) = some (a || (b || (c || (d || (e || f)))),()):=by
  cases a <;> cases b <;> cases c <;> cases d <;> cases e <;> rfl
theorem k82:KOne Tryz.prog 155 ⟨[.v i64],[.bool],false,false,0,cf82⟩:=ok155 .nil cf82 fun x y h => by
  obtain ⟨p,_⟩:=x
  injection h with h; subst h
  exact ⟨0,isP_text _ _ _ _ _ _⟩
theorem k86:KOne Tryz.prog 165 ⟨[.v i64],[.bool],false,false,0,cf82⟩:=ok165 .nil cf82 fun x y h => by
  obtain ⟨p,_⟩:=x
  injection h with h; subst h
  exact ⟨0,isP_text _ _ _ _ _ _⟩
def cf73:Args [.v i64,.v i64,.v i64]->Option R131:=fun x => some (decide (x.2.1 ≤ x.1) && decide (x.1 ≤ x.2.2.1),())
theorem k73:KOne Tryz.prog 131 ⟨[.v i64,.v i64,.v i64],[.bool],false,false,0,cf73⟩:=ok131 .nil cf73 fun x y h => by
  obtain ⟨a,b,c,_⟩:=x
  injection h with h; subst h
  refine ⟨0,?_⟩
  simp only [fn131]
  cases decide (b ≤ a) <;> rfl
def cf87:Args [.v i64]->Option R166:=fun x => some (decide (1 ≤ x.1) && decide (x.1 ≤ 3),())
theorem k87:KOne Tryz.prog 166 ⟨[.v i64],[.bool],false,false,0,cf87⟩:=ok166 .nil cf87 fun x y h => by
  obtain ⟨a,_⟩:=x
  injection h with h; subst h
  refine ⟨0,?_⟩
  simp only [fn166]
  cases decide ((1:Int) ≤ a) <;> rfl
def c155 (l:List Int):Option (List Int × Unit):=if l.length ≤ B then some (l,()) else none
def cf155:Args [.v (.slice 2 i64)]->Option R162:=fun x => c155 x.1
theorem k155:KOne Tryz.prog 162 ⟨[.v (.slice 2 i64)],[.slice 2 i64],true,false,0,cf155⟩:=ok162 .nil cf155 fun x y h => by
  obtain ⟨l,_⟩:=x
  simp only [cf155,c155] at h
  split at h
  · rename_i hc
    injection h with h; subst h
    refine ⟨0,?_⟩
    simp only [B] at hc
    simp (disch:=omega) only [fn162,grow_t,cond_true,List.nil_append]
  · cases h
def ldI (r:List Int):Int:=if ld r = r.length then -1 else (ld r:Int)
def c153 (l:List Int):Option (Int × Unit):=if l.length ≤ B then some (ldI l,()) else none
def cf153:Args [.v (.slice 2 i64)]->Option R87:=fun x => c153 x.1
theorem k153:KOne Tryz.prog 87 ⟨[.v (.slice 2 i64)],[i64],false,false,0,cf153⟩:=ok87 .nil cf153 fun x y h => by
  obtain ⟨l,_⟩:=x
  simp only [cf153,c153] at h
  split at h
  · rename_i hc
    injection h with h; subst h
    simp only [B] at hc
    have hle:=ld_le l
    refine ⟨l.length + 1,?_⟩
    simp only [fn87,ru87_2]
    refine iter_run (ld l) _ (fun i => ((l,()),((i:Int),()),())) (by omega) (fun i hi k => ?_) (fun k => ?_)
    · have h0:l.getD i 0 = 0:=ld_zero l i hi
      simp (disch:=omega) only [st87_2,dln_t,cond_true,ofn,dlt_t,ib_t,tn_cast,h0,deq_t,Bool.not_true,cond_false,w6_id]
      rfl
    · by_cases q:ld l = l.length
      · simp (disch:=omega) only [st87_2,dln_t,cond_true,ofn,dlt_f,cond_false,ldI,if_pos q]
      · have hne:l.getD (ld l) 0 ≠ 0:=ld_ne l (by omega)
        simp (disch:=first | omega | exact hne) only [st87_2,dln_t,cond_true,ofn,dlt_t,ib_t,tn_cast,deq_f,Bool.not_false,cond_false,ldI,if_neg q]
  · cases h
def marks (k:Int):Nat->List Int
  | 0 => []
  | n + 1 => k :: marks (k + 1) n
def c20 (l:List Int) (k:Int):Option (Int × Unit):=if l.length ≤ B ∧ 0 ≤ k ∧ k ≤ 1000000000000 ∧ l = marks k l.length then some (k + l.length,()) else none
theorem g74_ok {p a:Int} (h : 0 < p ∧ p ≤ 1000000 ∧ -1000000000000000000 ≤ a ∧ a ≤ 1000000000000000000):cf74 (p,a,()) = some (a % p,()):=if_pos h
theorem mul_rng {a b c d:Int} (h1 : 0 ≤ a) (h2:a < c) (h3 : 0 ≤ b) (h4:b < d) : 0 ≤ a * b ∧ a * b < c * d:=by
  refine ⟨Int.mul_nonneg h1 h3,?_⟩
  have:a * b ≤ a * d:=Int.mul_le_mul_of_nonneg_left (by omega) h1
  have:a * d < c * d:=Int.mul_lt_mul_of_pos_right h2 (by omega)
  omega
theorem sq_rng {p a b:Int} (hp:p ≤ 13) (h1 : 0 ≤ a) (h2:a < p) (h3 : 0 ≤ b) (h4:b < p) : 0 ≤ a * b ∧ a * b < 169:=by
  have:=mul_rng (c:=13) (d:=13) h1 (by omega) h3 (by omega)
  omega
theorem run75a {p x:Int} (hp : 2 ≤ p ∧ p ≤ 13) (hx : -1000000000000 ≤ x ∧ x ≤ 1000000000000) {F0:Nat}:∀ (f F:Nat) (k:Int),1 ≤ k->p - k < f->f < F →
    iter (fun s k => st159_2 cf74 F0 s k (fun s' => match s' with | ((t0,_),(t1,_),(t5,_),_) => (some ((0:Int),())))) F ((p,()),((x,()),((k,()),()))) = some (invA p (x % p) f k,())
  | 0,F,k,h1,h2,h3 => by
    obtain ⟨F,rfl⟩:∃ f,F = f + 1:=⟨F - 1,by omega⟩
    simp (disch:=omega) only [iter,st159_2,dlt_f,cond_false,invA]
  | f + 1,F,k,h1,h2,h3 => by
    obtain ⟨F,rfl⟩:∃ f,F = f + 1:=⟨F - 1,by omega⟩
    have r:=md_rng (p:=p) (x:=x) (by omega)
    by_cases q:k < p
    · have s:=sq_rng (p:=p) (by omega) (show 0 ≤ k by omega) q r.1 r.2
      have g:=g74_ok (p:=p) (a:=x) (by omega)
      have e:Int.tmod (w6 (k * (x % p))) p = k * (x % p) % p:=by rw [w6_id (by omega) (by omega),Int.tmod_eq_emod_of_nonneg s.1]
      have ih:=fun k h1 h2 => run75a hp hx (F0:=F0) f F k h1 h2 (by omega)
      simp only [iter]
      generalize iter _ F = G at ih ⊢
      simp (disch:=omega) only [st159_2,dlt_t,cond_true,g,deq_f,Bool.not_false,e]
      by_cases z:k * (x % p) % p = 1
      · rw [decide_eq_true z]; simp only [cond_true,invA,if_pos q,if_pos z]
      · rw [decide_eq_false z]
        simp (disch:=omega) only [cond_false,w6_id]
        rw [ih (k + 1) (by omega) (by omega)]
        simp only [invA,if_pos q,if_neg z]
    · simp (disch:=omega) only [iter,st159_2,dlt_f,cond_false,invA,if_neg q]
theorem run75 {p x:Int} (hp : 2 ≤ p ∧ p ≤ 13) (hx : -1000000000000 ≤ x ∧ x ≤ 1000000000000):fn159 cf74 20 (p,x,()) = some (inv p x,()):=by
  simp only [fn159,ru159_2]
  exact run75a hp hx 13 20 1 (by omega) (by omega) (by omega)
def c75 (p x:Int):Option (Int × Unit):=if (2 ≤ p ∧ p ≤ 13) ∧ (-1000000000000 ≤ x ∧ x ≤ 1000000000000) then some (inv p x,()) else none
def cf75:Args [.v i64,.v i64]->Option R159:=fun x => c75 x.1 x.2.1
theorem k75:KOne Tryz.prog 159 ⟨[.v i64,.v i64],[i64],false,false,0,cf75⟩:=ok159 _ (.cons k74 .nil) cf75 fun x y h => by
  obtain ⟨p,a,_⟩:=x
  simp only [cf75,c75] at h
  split at h
  · rename_i hc
    injection h with h; subst h
    exact ⟨20,run75 hc.1 hc.2⟩
  · cases h
theorem take_snoc {α : Type} {l:List α} {i:Nat} (h:i < l.length):l.take (i + 1) = l.take i ++ [l[i]]:=by
  rw [List.take_add_one,List.getElem?_eq_getElem h]; rfl
theorem el_get {l:List Int} {i:Nat} (h:i < l.length):el l i = l[i]:=by
  simp [el,List.getD_eq_getElem?_getD,List.getElem?_eq_getElem h]
theorem run154 {p k:Int} {m:Nat} {r o:List Int} (hp : 2 ≤ p ∧ p ≤ 13) (hk : 0 ≤ k ∧ k < p) (h1:Can p m r) (h2:Can p m o) (hm:m ≤ 1000000):fn160 cf74 (m + 1) (p,r,o,k,()) = some (subm p k r o,()):=by
  simp only [fn160,ru160_3]
  have l1:=h1.len
  have l2:=h2.len
  have l3:(subm p k r o).length = m:=by rw [subm_len (by omega)]; exact l1
  have key:=iter_run (step:=fun s k => st160_3 cf74 (m + 1) s k (fun s' => match s' with | ((t0,_),(t1,_),(t2,_),(t3,_),(t9,_),(t10,_),_) => (some (t9,())))) (r:=some (subm p k r o,())) m (m + 1) (fun i => ((p,()),((r,()),((o,()),((k,()),(((subm p k r o).take i,()),(((i:Int),()),()))))))) (by omega) (fun i hi kk => ?_) (fun kk => ?_)
  · simpa using key
  · have z1:=h1.rng i
    have z2:=h2.rng i
    have z3:=sq_rng (p:=p) (by omega) hk.1 hk.2 z2.1 z2.2
    have g:cf74 (p,w6 (r.getD i 0 - w6 (k * o.getD i 0)),()) = some ((el r i - k * el o i) % p,()):=by
      simp only [el] at z1 z2 z3
      rw [w6_id (x:=k * o.getD i 0) (by omega) (by omega),w6_id (by omega) (by omega)]
      exact g74_ok (by omega)
    have l4:(List.take i (subm p k r o)).length = i:=by rw [List.length_take,l3]; omega
    have e:(el r i - k * el o i) % p = (subm p k r o)[i]'(by omega):=by rw [← el_subm (by omega),el_get]
    rw [show List.take (i + 1) (subm p k r o) = List.take i (subm p k r o) ++ [(el r i - k * el o i) % p] by rw [take_snoc (by omega),e]]
    clear e
    generalize List.take i (subm p k r o) = L at *
    simp (disch:=omega) only [st160_3,dln_t,cond_true,ofn,dlt_t,ib_t,tn_cast,g,grow_t,List.length_singleton,w6_id]
    rfl
  · rw [show List.take m (subm p k r o) = subm p k r o by rw [← l3,List.take_length]]
    simp (disch:=omega) only [st160_3,dln_t,cond_true,ofn,dlt_f,cond_false]
open Classical in
noncomputable def c154 (p:Int) (r o:List Int) (k:Int):Option (List Int × Unit):=if (2 ≤ p ∧ p ≤ 13) ∧ (0 ≤ k ∧ k < p) ∧ r.length ≤ 1000000 ∧ Can p r.length r ∧ Can p r.length o then some (subm p k r o,()) else none
noncomputable def cf154:Args [.v i64,.v (.slice 2 i64),.v (.slice 2 i64),.v i64]->Option R160:=fun x => c154 x.1 x.2.1 x.2.2.1 x.2.2.2.1
theorem k154:KOne Tryz.prog 160 ⟨[.v i64,.v (.slice 2 i64),.v (.slice 2 i64),.v i64],[.slice 2 i64],true,false,0,cf154⟩:=ok160 _ (.cons k74 .nil) cf154 fun x y h => by
  obtain ⟨p,r,o,k,_⟩:=x
  simp only [cf154,c154] at h
  split at h
  · rename_i hc
    injection h with h; subst h
    exact ⟨_,run154 hc.1 hc.2.1 hc.2.2.2.1 hc.2.2.2.2 hc.2.2.1⟩
  · cases h
theorem g153_ok {l:List Int} (h:l.length ≤ 1000000):cf153 (l,()) = some (ldI l,()):=if_pos h
theorem g155_ok {l:List Int} (h:l.length ≤ 1000000):cf155 (l,()) = some (l,()):=if_pos h
theorem g154_ok {p k:Int} {m:Nat} {r o:List Int} (hp : 2 ≤ p ∧ p ≤ 13) (hk : 0 ≤ k ∧ k < p) (h1:Can p m r) (h2:Can p m o) (hm:m ≤ 1000000):cf154 (p,r,o,k,()) = some (subm p k r o,()) :=
  if_pos ⟨hp,hk,by rw [h1.len]; exact hm,by rw [h1.len]; exact h1,by rw [h1.len]; exact h2⟩
theorem ldI_lt {r:List Int} {m:Nat} (hl:r.length = m) (h:ld r < m):ldI r = (ld r:Int):=by unfold ldI; rw [if_neg (by omega)]
theorem subm_zero {p:Int} {m:Nat} {r o:List Int} (h1:Can p m r) (h2:o.length = m):subm p 0 r o = r:=by
  refine row_ext (subm_len (by rw [h1.len,h2])) fun i => ?_
  rw [el_subm (by rw [h1.len,h2]),Int.zero_mul,Int.sub_zero,h1.mod]
theorem rest_snoc {p:Int}:∀ {a:List (List Int)} {o r:List Int},rest p (a ++ [o]) r = subm p (el (rest p a r) (ld o)) (rest p a r) o
  | [],o,r => rfl
  | x :: a,o,r => by simp only [List.cons_append,rest]; exact rest_snoc
theorem run152 {p:Int} {m:Nat} {out:List (List Int)} {r:List Int} (hp : 2 ≤ p ∧ p ≤ 13) (rr:RR p m out) (hr:Can p m r) (hm:m ≤ 1000000) (ho:out.length ≤ 1000000):fn88 cf155 cf154 cf153 (out.length + 1) (p,out,r,()) = some (rest p out r,()):=by
  simp only [fn88,ru88_3]
  rw [g155_ok (by rw [hr.len]; exact hm)]
  simp only
  have key:=iter_run (step:=fun s k => st88_3 cf155 cf154 cf153 (out.length + 1) s k (fun s' => match s' with | ((t0,_),(t1,_),(t7,_),(t8,_),_) => (some (t7,())))) (r:=some (rest p out r,())) out.length (out.length + 1) (fun i => ((p,()),((out,()),((rest p (out.take i) r,()),(((i:Int),()),()))))) (by omega) (fun i hi kk => ?_) (fun kk => ?_)
  · simpa [rest] using key
  · have ho1:out.getD i [] = out[i]:=by simp [List.getD_eq_getElem?_getD,List.getElem?_eq_getElem hi]
    have hmem:out[i] ∈ out:=List.getElem_mem hi
    have co:=rr.can _ hmem
    have lo:=rr.lt _ hmem
    have cr:Can p m (rest p (out.take i) r):=rest_can (by omega) (fun o h => rr.can o (List.mem_of_mem_take h)) hr
    rw [show List.take (i + 1) out = List.take i out ++ [out[i]] from take_snoc hi,rest_snoc]
    generalize rest p (List.take i out) r = own at *
    generalize out[i] = o at *
    have g1:=g153_ok (l:=o) (by rw [co.len]; exact hm)
    rw [ldI_lt co.len lo] at g1
    have lw:=cr.len
    have z:=cr.rng (ld o)
    by_cases q:el own (ld o) = 0
    · have q':own.getD (ld o) 0 = 0:=q
      rw [q,subm_zero cr co.len]
      simp (disch:=omega) only [st88_3,dln_t,cond_true,ofn,dlt_t,ib_t,tn_cast,ho1,g1,q',decide_true,Bool.not_true,cond_false,w6_id]
      rfl
    · have q':own.getD (ld o) 0 ≠ 0:=q
      have g2:cf154 (p,own,o,own.getD (ld o) 0,()) = some (subm p (el own (ld o)) own o,()):=g154_ok hp z cr co hm
      simp (disch:=first | omega | exact q') only [st88_3,dln_t,cond_true,ofn,dlt_t,ib_t,tn_cast,ho1,g1,deq_f,Bool.not_false,g2,w6_id]
      rfl
  · rw [List.take_length]
    simp (disch:=omega) only [st88_3,dln_t,cond_true,ofn,dlt_f,cond_false]
open Classical in
noncomputable def c152 (p:Int) (out:List (List Int)) (r:List Int):Option (List Int × Unit):=if (2 ≤ p ∧ p ≤ 13) ∧ RR p r.length out ∧ Can p r.length r ∧ r.length ≤ 1000000 ∧ out.length ≤ 1000000 then some (rest p out r,()) else none
noncomputable def cf152:Args [.v i64,.v (.slice 44 (.slice 2 i64)),.v (.slice 2 i64)]->Option R88:=fun x => c152 x.1 x.2.1 x.2.2.1
theorem k152:KOne Tryz.prog 88 ⟨[.v i64,.v (.slice 44 (.slice 2 i64)),.v (.slice 2 i64)],[.slice 2 i64],true,false,0,cf152⟩:=ok88 _ _ _ (.cons k155 (.cons k154 (.cons k153 .nil))) cf152 fun x y h => by
  obtain ⟨p,out,r,_⟩:=x
  simp only [cf152,c152] at h
  split at h
  · rename_i hc
    injection h with h; subst h
    exact ⟨_,run152 hc.1 hc.2.1 hc.2.2.1 hc.2.2.2.1 hc.2.2.2.2⟩
  · cases h
theorem g152_ok {p:Int} {m:Nat} {out:List (List Int)} {r:List Int} (hp : 2 ≤ p ∧ p ≤ 13) (rr:RR p m out) (hr:Can p m r) (hm:m ≤ 1000000) (ho:out.length ≤ 1000000):cf152 (p,out,r,()) = some (rest p out r,()) :=
  if_pos ⟨hp,by rw [hr.len]; exact rr,by rw [hr.len]; exact hr,by rw [hr.len]; exact hm,ho⟩
abbrev R190:Type:=Ress [poly]
abbrev G190:Type:=Args [.v i64,.v i64]->Option R190
abbrev kp190:List (Nat × List Nat):=[(0,[0,1,4]),(1,[4])]
abbrev ct190:CTab:=[]
def fn190 (F:Nat) (x:Args [.v i64,.v i64]):Option R190 :=
  match x with
  | (x0,x1,_) => (some ((x0,(x1,([],()))),()))
theorem ev190 (F:Nat) (x:Args [.v i64,.v i64]):fnK TT (ct190 ) kp190 [poly] [] (bodyOf Tryz.f190) [.cell 4 34] [.v i64,.v i64] true false x = fn190 F x:=by
  obtain ⟨x0,x1,_⟩:=x
  kernel_rfl
theorem ok190 (hK:KOK Tryz.prog (ct190 )) (cf:G190) (h:∀ x y,cf x = some y->∃ F,fn190 F x = some y):KOne Tryz.prog 190 ⟨[.v i64,.v i64],[poly],true,false,0,cf⟩ :=
  fn_one rfl (c:=bodyOf Tryz.f190) mixed tt_ok hK Tryz.func190 (by kernel_rfl) (by kernel_rfl) (Nat.le_of_ble_eq_true (by kernel_rfl)) (by decide) fun x y hxy => by
    obtain ⟨F,hF⟩:=h x y hxy
    exact ⟨[],LTOK_by (l:=[]) (by kernel_rfl) trivial,(ev190 F x).trans hF⟩
abbrev R163:Type:=Ress [i64]
abbrev G163:Type:=Args [.v poly,.v ex]->Option R163
abbrev kp163:List (Nat × List Nat):=[(0,[2,3]),(1,[5,2,3]),(2,[10,3,2,5]),(4,[20,3,2,5]),(5,[4]),(3,[5,2,3]),(6,[4])]
abbrev ct163:CTab:=[]
abbrev kr163:Env->Option R163:=endK TT [.tmp 4] [i64] false false
abbrev sh163_2:Shape:=[(2,.box false [.fz i64 0 false,.fz i64 0 false,.fz (.slice 135 term) 0 true]),(3,bb ex),(5,vv i64)]
def st163_2 (F:Nat) (s:ShVal sh163_2) (k kx:ShVal sh163_2->Option R163):Option R163 :=
  match s with
  | ((t2_0,t2_1,t2_2,_),(t3,_),(t5,_),_) => (bif decide ((List.length t2_2) ≤ 9223372036854775807) then (bif decide (t5 < (Int.ofNat (List.length t2_2))) then (bif ib t5 (Int.ofNat (List.length t2_2)) then (bif (Ty.eqd (.arr 3 (.int .u8)) (List.getD t2_2 (tn t5) (Ty.dflt (.pair (.arr 3 (.int .u8)) (.pair (.int .i64) .unit)))).1 t3) then (bif ib t5 (Int.ofNat (List.length t2_2)) then (some ((List.getD t2_2 (tn t5) (Ty.dflt (.pair (.arr 3 (.int .u8)) (.pair (.int .i64) .unit)))).2.1,())) else none) else k ((t2_0,(t2_1,(t2_2,()))),((t3,()),(((w6 (t5 + (1:Int))),()),())))) else none) else kx ((t2_0,(t2_1,(t2_2,()))),((t3,()),((t5,()),())))) else none)
def ru163_2 (F:Nat) (s:ShVal sh163_2) (kx:ShVal sh163_2->Option R163):Option R163:=iter (fun s k => st163_2 F s k kx) F s
abbrev ls163_2 (F:Nat):LS R163:=⟨sh163_2,0,ru163_2 F⟩
def fn163 (F:Nat) (x:Args [.v poly,.v ex]):Option R163 :=
  match x with
  | (x0,x1,_) => (ru163_2 F ((x0.1,(x0.2.1,(x0.2.2.1,()))),((x1,()),(((0:Int),()),()))) (fun s' => match s' with | ((t2_0,t2_1,t2_2,_),(t3,_),(t5,_),_) => (some ((0:Int),()))))
theorem ev163_2 (F:Nat) (s:ShVal sh163_2) (k kx:ShVal sh163_2->Option R163):evL TT (ct163 ) kp163 [] (loopOf Tryz.f163 2) (envOf sh163_2 s) (fitK sh163_2 k) (fun j e => bif Nat.beq j 0 then fitK sh163_2 kx e else none) kr163 = st163_2 F s k kx:=by
  obtain ⟨⟨t2_0,t2_1,t2_2,_⟩,⟨t3,_⟩,⟨t5,_⟩,_⟩:=s
  kernel_rfl
theorem ok163_2 (F:Nat) (hK:KOK Tryz.prog (ct163 )):LSOK Tryz.prog ⟨27,false,undef⟩ (ls163_2 F) (loopOf Tryz.f163 2) kr163 :=
  loop_ok (st163_2 F) mixed tt_ok hK (by kernel_rfl) (LTOK_by (l:=[]) (by kernel_rfl) trivial) (ev163_2 F)
theorem ev163 (F:Nat) (x:Args [.v poly,.v ex]):fnK TT (ct163 ) kp163 [i64] [(2,ls163_2 F)] (bodyOf Tryz.f163) [.tmp 4] [.v poly,.v ex] false false x = fn163 F x:=by
  obtain ⟨x0,x1,_⟩:=x
  kernel_rfl
theorem ok163 (hK:KOK Tryz.prog (ct163 )) (cf:G163) (h:∀ x y,cf x = some y->∃ F,fn163 F x = some y):KOne Tryz.prog 163 ⟨[.v poly,.v ex],[i64],false,false,0,cf⟩ :=
  fn_one rfl (c:=bodyOf Tryz.f163) mixed tt_ok hK Tryz.func163 (by kernel_rfl) (by kernel_rfl) (Nat.le_of_ble_eq_true (by kernel_rfl)) (by decide) fun x y hxy => by
    obtain ⟨F,hF⟩:=h x y hxy
    exact ⟨[(2,ls163_2 F)],LTOK_by (l:=[loopOf Tryz.f163 2]) (by kernel_rfl) ⟨ls_at (by kernel_rfl) (ok163_2 F hK),trivial⟩,(ev163 F x).trans hF⟩
abbrev R158:Type:=Ress [i64]
abbrev G158:Type:=Args [.v ex]->Option R158
abbrev kp158:List (Nat × List Nat):=[(0,[1]),(1,[2])]
abbrev ct158:CTab:=[]
def fn158 (F:Nat) (x:Args [.v ex]):Option R158 :=
  match x with
  | (x0,_) => (some ((w6 ((w6 ((w6 (tget (0:Int) 3 x0 (tn (0:Int)))) + (w6 (tget (0:Int) 3 x0 (tn (1:Int)))))) + (w6 (tget (0:Int) 3 x0 (tn (2:Int)))))),()))
theorem ev158 (F:Nat) (x:Args [.v ex]):fnK TT (ct158 ) kp158 [i64] [] (bodyOf Tryz.f158) [.tmp 2] [.v ex] false false x = fn158 F x:=by
  obtain ⟨x0,_⟩:=x
  kernel_rfl
theorem ok158 (hK:KOK Tryz.prog (ct158 )) (cf:G158) (h:∀ x y,cf x = some y->∃ F,fn158 F x = some y):KOne Tryz.prog 158 ⟨[.v ex],[i64],false,false,0,cf⟩ :=
  fn_one rfl (c:=bodyOf Tryz.f158) mixed tt_ok hK Tryz.func158 (by kernel_rfl) (by kernel_rfl) (Nat.le_of_ble_eq_true (by kernel_rfl)) (by decide) fun x y hxy => by
    obtain ⟨F,hF⟩:=h x y hxy
    exact ⟨[],LTOK_by (l:=[]) (by kernel_rfl) trivial,(ev158 F x).trans hF⟩
abbrev R84:Type:=Ress [i64]
abbrev G84:Type:=Args [.v poly]->Option R84
abbrev kp84:List (Nat × List Nat):=[(0,[1]),(1,[6,1]),(2,[2]),(3,[2])]
abbrev ct84 (g158:G158):CTab:=[(158,⟨[.v ex],[i64],false,false,0,g158⟩)]
def fn84 (g158:G158) (F:Nat) (x:Args [.v poly]):Option R84 :=
  match x with
  | (x0,_) => (bif decide ((List.length x0.2.2.1) ≤ 9223372036854775807) then (bif decide ((Int.ofNat (List.length x0.2.2.1)) = (0:Int)) then (some ((-(1:Int)),())) else (bif decide ((List.length x0.2.2.1) ≤ 9223372036854775807) then (bif ib (w6 ((Int.ofNat (List.length x0.2.2.1)) - (1:Int))) (Int.ofNat (List.length x0.2.2.1)) then (match (g158 ((List.getD x0.2.2.1 (tn (w6 ((Int.ofNat (List.length x0.2.2.1)) - (1:Int)))) (Ty.dflt (.pair (.arr 3 (.int .u8)) (.pair (.int .i64) .unit)))).1,())) with | some r5 => (some (r5.1,())) | none => none) else none) else none)) else none)
theorem ev84 (g158:G158) (F:Nat) (x:Args [.v poly]):fnK TT (ct84 g158 ) kp84 [i64] [] (bodyOf Tryz.f84) [.tmp 2] [.v poly] false false x = fn84 g158 F x:=by
  obtain ⟨x0,_⟩:=x
  kernel_rfl
theorem ok84 (g158:G158) (hK:KOK Tryz.prog (ct84 g158 )) (cf:G84) (h:∀ x y,cf x = some y->∃ F,fn84 g158 F x = some y):KOne Tryz.prog 84 ⟨[.v poly],[i64],false,false,0,cf⟩ :=
  fn_one rfl (c:=bodyOf Tryz.f84) mixed tt_ok hK Tryz.func84 (by kernel_rfl) (by kernel_rfl) (Nat.le_of_ble_eq_true (by kernel_rfl)) (by decide) fun x y hxy => by
    obtain ⟨F,hF⟩:=h x y hxy
    exact ⟨[],LTOK_by (l:=[]) (by kernel_rfl) trivial,(ev84 g158 F x).trans hF⟩
abbrev R157:Type:=Ress [.bool]
abbrev G157:Type:=Args [.v ex,.v ex]->Option R157
abbrev kp157:List (Nat × List Nat):=[(0,[2,3]),(1,[9,2,3]),(2,[4]),(3,[19,2,3]),(4,[4]),(5,[4])]
abbrev ct157 (g158:G158):CTab:=[(158,⟨[.v ex],[i64],false,false,0,g158⟩)]
def fn157 (g158:G158) (F:Nat) (x:Args [.v ex,.v ex]):Option R157 :=
  match x with
  | (x0,x1,_) => (match (g158 (x0,())) with | some r5 => (match (g158 (x1,())) with | some r6 => (bif (!decide (r5.1 = r6.1)) then (match (g158 (x0,())) with | some r8 => (match (g158 (x1,())) with | some r9 => (some (decide (r8.1 < r9.1),())) | none => none) | none => none) else (bif (!decide ((tget (0:Int) 3 x0 (tn (0:Int))) = (tget (0:Int) 3 x1 (tn (0:Int))))) then (some (decide ((tget (0:Int) 3 x1 (tn (0:Int))) < (tget (0:Int) 3 x0 (tn (0:Int)))),())) else (some (decide ((tget (0:Int) 3 x1 (tn (1:Int))) < (tget (0:Int) 3 x0 (tn (1:Int)))),())))) | none => none) | none => none)
theorem ev157 (g158:G158) (F:Nat) (x:Args [.v ex,.v ex]):fnK TT (ct157 g158 ) kp157 [.bool] [] (bodyOf Tryz.f157) [.tmp 4] [.v ex,.v ex] false false x = fn157 g158 F x:=by
  obtain ⟨x0,x1,_⟩:=x
  kernel_rfl
theorem ok157 (g158:G158) (hK:KOK Tryz.prog (ct157 g158 )) (cf:G157) (h:∀ x y,cf x = some y->∃ F,fn157 g158 F x = some y):KOne Tryz.prog 157 ⟨[.v ex,.v ex],[.bool],false,false,0,cf⟩ :=
  fn_one rfl (c:=bodyOf Tryz.f157) mixed tt_ok hK Tryz.func157 (by kernel_rfl) (by kernel_rfl) (Nat.le_of_ble_eq_true (by kernel_rfl)) (by decide) fun x y hxy => by
    obtain ⟨F,hF⟩:=h x y hxy
    exact ⟨[],LTOK_by (l:=[]) (by kernel_rfl) trivial,(ev157 g158 F x).trans hF⟩
abbrev R189:Type:=Ress [poly]
abbrev G189:Type:=Args [.v poly,.v ex,.v i64]->Option R189
abbrev kp189:List (Nat × List Nat):=[(0,[2,4,3,6]),(1,[2,7,4,3,6]),(2,[7,4,2,3,6]),(3,[7,4,2,8,3,6]),(4,[9,7,4,2,8,3,6]),(5,[30,8,9,7,4,2,3,6]),(7,[8,10,9,7,4,2,3,6]),(8,[45,8,10,9,7,4,2,3,6]),(9,[10,9,7,4,2,3,6]),(10,[10,9,7,4,2,8,3,6]),(11,[57,10,9,7,4,2,8,3,6]),(12,[9,7,4,2,8,3,6]),(6,[9,7,4,2,8,3,6]),(13,[65,4,2,7,6]),(14,[7,6]),(15,[6])]
abbrev ct189 (g190:G190) (g157:G157) (g219:G219) (g163:G163):CTab:=[(190,⟨[.v i64,.v i64],[poly],true,false,0,g190⟩),(157,⟨[.v ex,.v ex],[.bool],false,false,0,g157⟩),(219,⟨[.v i64,.v i64],[i64],false,false,0,g219⟩),(163,⟨[.v poly,.v ex],[i64],false,false,0,g163⟩)]
abbrev kr189:Env->Option R189:=endK TT [.cell 6 34] [poly] true false
abbrev sh189_5:Shape:=[(2,vv i64),(3,.box false [.fz i64 0 false,.fz i64 0 false,.fz (.slice 135 term) 0 true]),(4,bb ex),(6,.box false [.fz i64 0 false,.fz i64 0 false,.rt 135 term 99 false true true]),(7,.box false [.fz i64 0 false,.fz i64 0 false,.rt 135 term 115 false true false]),(8,vv .bool),(9,vv i64)]
def st189_5 (g190:G190) (g157:G157) (g219:G219) (g163:G163) (F:Nat) (s:ShVal sh189_5) (k kx:ShVal sh189_5->Option R189):Option R189 :=
  match s with
  | ((t2,_),(t3_0,t3_1,t3_2,_),(t4,_),(t6_0,t6_1,t6_2,_),(t7_0,t7_1,t7_2,_),(t8,_),(t9,_),_) => (bif decide ((List.length t3_2) ≤ 9223372036854775807) then (bif decide (t9 < (Int.ofNat (List.length t3_2))) then (bif ib t9 (Int.ofNat (List.length t3_2)) then (bif (!t8) then (match (g157 (t4,((List.getD t3_2 (tn t9) (Ty.dflt (.pair (.arr 3 (.int .u8)) (.pair (.int .i64) .unit)))).1,()))) with | some r31 => (bif (bif true then r31.1 else false) then (bif (growOk (List.length t7_2) (List.length ((t4,(t2,())) :: []))) then (bif (!(Ty.eqd (.arr 3 (.int .u8)) (List.getD t3_2 (tn t9) (Ty.dflt (.pair (.arr 3 (.int .u8)) (.pair (.int .i64) .unit)))).1 t4)) then (bif (growOk (List.length (t7_2 ++ ((t4,(t2,())) :: []))) (List.length (((List.getD t3_2 (tn t9) (Ty.dflt (.pair (.arr 3 (.int .u8)) (.pair (.int .i64) .unit)))).1,((List.getD t3_2 (tn t9) (Ty.dflt (.pair (.arr 3 (.int .u8)) (.pair (.int .i64) .unit)))).2.1,())) :: []))) then k ((t2,()),((t3_0,(t3_1,(t3_2,()))),((t4,()),((t6_0,(t6_1,(t6_2,()))),((t7_0,(t7_1,(((t7_2 ++ ((t4,(t2,())) :: [])) ++ (((List.getD t3_2 (tn t9) (Ty.dflt (.pair (.arr 3 (.int .u8)) (.pair (.int .i64) .unit)))).1,((List.getD t3_2 (tn t9) (Ty.dflt (.pair (.arr 3 (.int .u8)) (.pair (.int .i64) .unit)))).2.1,())) :: [])),()))),((true,()),(((w6 (t9 + (1:Int))),()),()))))))) else none) else k ((t2,()),((t3_0,(t3_1,(t3_2,()))),((t4,()),((t6_0,(t6_1,(t6_2,()))),((t7_0,(t7_1,((t7_2 ++ ((t4,(t2,())) :: [])),()))),((true,()),(((w6 (t9 + (1:Int))),()),())))))))) else none) else (bif (!(Ty.eqd (.arr 3 (.int .u8)) (List.getD t3_2 (tn t9) (Ty.dflt (.pair (.arr 3 (.int .u8)) (.pair (.int .i64) .unit)))).1 t4)) then (bif (growOk (List.length t7_2) (List.length (((List.getD t3_2 (tn t9) (Ty.dflt (.pair (.arr 3 (.int .u8)) (.pair (.int .i64) .unit)))).1,((List.getD t3_2 (tn t9) (Ty.dflt (.pair (.arr 3 (.int .u8)) (.pair (.int .i64) .unit)))).2.1,())) :: []))) then k ((t2,()),((t3_0,(t3_1,(t3_2,()))),((t4,()),((t6_0,(t6_1,(t6_2,()))),((t7_0,(t7_1,((t7_2 ++ (((List.getD t3_2 (tn t9) (Ty.dflt (.pair (.arr 3 (.int .u8)) (.pair (.int .i64) .unit)))).1,((List.getD t3_2 (tn t9) (Ty.dflt (.pair (.arr 3 (.int .u8)) (.pair (.int .i64) .unit)))).2.1,())) :: [])),()))),((t8,()),(((w6 (t9 + (1:Int))),()),()))))))) else none) else k ((t2,()),((t3_0,(t3_1,(t3_2,()))),((t4,()),((t6_0,(t6_1,(t6_2,()))),((t7_0,(t7_1,(t7_2,()))),((t8,()),(((w6 (t9 + (1:Int))),()),()))))))))) | none => none) else (bif (!(Ty.eqd (.arr 3 (.int .u8)) (List.getD t3_2 (tn t9) (Ty.dflt (.pair (.arr 3 (.int .u8)) (.pair (.int .i64) .unit)))).1 t4)) then (bif (growOk (List.length t7_2) (List.length (((List.getD t3_2 (tn t9) (Ty.dflt (.pair (.arr 3 (.int .u8)) (.pair (.int .i64) .unit)))).1,((List.getD t3_2 (tn t9) (Ty.dflt (.pair (.arr 3 (.int .u8)) (.pair (.int .i64) .unit)))).2.1,())) :: []))) then k ((t2,()),((t3_0,(t3_1,(t3_2,()))),((t4,()),((t6_0,(t6_1,(t6_2,()))),((t7_0,(t7_1,((t7_2 ++ (((List.getD t3_2 (tn t9) (Ty.dflt (.pair (.arr 3 (.int .u8)) (.pair (.int .i64) .unit)))).1,((List.getD t3_2 (tn t9) (Ty.dflt (.pair (.arr 3 (.int .u8)) (.pair (.int .i64) .unit)))).2.1,())) :: [])),()))),((t8,()),(((w6 (t9 + (1:Int))),()),()))))))) else none) else k ((t2,()),((t3_0,(t3_1,(t3_2,()))),((t4,()),((t6_0,(t6_1,(t6_2,()))),((t7_0,(t7_1,(t7_2,()))),((t8,()),(((w6 (t9 + (1:Int))),()),()))))))))) else none) else kx ((t2,()),((t3_0,(t3_1,(t3_2,()))),((t4,()),((t6_0,(t6_1,(t6_2,()))),((t7_0,(t7_1,(t7_2,()))),((t8,()),((t9,()),())))))))) else none)
def ru189_5 (g190:G190) (g157:G157) (g219:G219) (g163:G163) (F:Nat) (s:ShVal sh189_5) (kx:ShVal sh189_5->Option R189):Option R189:=iter (fun s k => st189_5 g190 g157 g219 g163 F s k kx) F s
abbrev ls189_5 (g190:G190) (g157:G157) (g219:G219) (g163:G163) (F:Nat):LS R189:=⟨sh189_5,0,ru189_5 g190 g157 g219 g163 F⟩
def fn189 (g190:G190) (g157:G157) (g219:G219) (g163:G163) (F:Nat) (x:Args [.v poly,.v ex,.v i64]):Option R189 :=
  match x with
  | (x0,x1,x2,_) => (match (g190 (x0.1,(x0.2.1,()))) with | some r9 => (match (g163 ((x0.1,(x0.2.1,(x0.2.2.1,()))),(x1,()))) with | some r11 => (match (g219 (x0.1,((w6 (x2 + r11.1)),()))) with | some r12 => (ru189_5 g190 g157 g219 g163 F ((r12.1,()),((x0.1,(x0.2.1,(x0.2.2.1,()))),((x1,()),(((Ty.dflt (.pair (.int .i64) (.pair (.int .i64) (.pair (.slice 135 (.pair (.arr 3 (.int .u8)) (.pair (.int .i64) .unit))) .unit)))).1,((Ty.dflt (.pair (.int .i64) (.pair (.int .i64) (.pair (.slice 135 (.pair (.arr 3 (.int .u8)) (.pair (.int .i64) .unit))) .unit)))).2.1,((Ty.dflt (.pair (.int .i64) (.pair (.int .i64) (.pair (.slice 135 (.pair (.arr 3 (.int .u8)) (.pair (.int .i64) .unit))) .unit)))).2.2.1,()))),((r9.1.1,(r9.1.2.1,(r9.1.2.2.1,()))),((decide (r12.1 = (0:Int)),()),(((0:Int),()),()))))))) (fun s' => match s' with | ((t2,_),(t3_0,t3_1,t3_2,_),(t4,_),(t6_0,t6_1,t6_2,_),(t7_0,t7_1,t7_2,_),(t8,_),(t9,_),_) => (bif (!t8) then (bif (growOk (List.length t7_2) (List.length ((t4,(t2,())) :: []))) then (some ((t7_0,(t7_1,((t7_2 ++ ((t4,(t2,())) :: [])),()))),())) else none) else (some ((t7_0,(t7_1,(t7_2,()))),()))))) | none => none) | none => none) | none => none)
theorem ev189_5 (g190:G190) (g157:G157) (g219:G219) (g163:G163) (F:Nat) (s:ShVal sh189_5) (k kx:ShVal sh189_5->Option R189):evL TT (ct189 g190 g157 g219 g163 ) kp189 [] (loopOf Tryz.f189 5) (envOf sh189_5 s) (fitK sh189_5 k) (fun j e => bif Nat.beq j 0 then fitK sh189_5 kx e else none) kr189 = st189_5 g190 g157 g219 g163 F s k kx:=by
  obtain ⟨⟨t2,_⟩,⟨t3_0,t3_1,t3_2,_⟩,⟨t4,_⟩,⟨t6_0,t6_1,t6_2,_⟩,⟨t7_0,t7_1,t7_2,_⟩,⟨t8,_⟩,⟨t9,_⟩,_⟩:=s
  kernel_rfl
theorem ok189_5 (g190:G190) (g157:G157) (g219:G219) (g163:G163) (F:Nat) (hK:KOK Tryz.prog (ct189 g190 g157 g219 g163 )):LSOK Tryz.prog ⟨75,false,undef⟩ (ls189_5 g190 g157 g219 g163 F) (loopOf Tryz.f189 5) kr189 :=
  loop_ok (st189_5 g190 g157 g219 g163 F) mixed tt_ok hK (by kernel_rfl) (LTOK_by (l:=[]) (by kernel_rfl) trivial) (ev189_5 g190 g157 g219 g163 F)
theorem ev189 (g190:G190) (g157:G157) (g219:G219) (g163:G163) (F:Nat) (x:Args [.v poly,.v ex,.v i64]):fnK TT (ct189 g190 g157 g219 g163 ) kp189 [poly] [(5,ls189_5 g190 g157 g219 g163 F)] (bodyOf Tryz.f189) [.cell 6 34] [.v poly,.v ex,.v i64] true false x = fn189 g190 g157 g219 g163 F x:=by
  obtain ⟨x0,x1,x2,_⟩:=x
  kernel_rfl
theorem ok189 (g190:G190) (g157:G157) (g219:G219) (g163:G163) (hK:KOK Tryz.prog (ct189 g190 g157 g219 g163 )) (cf:G189) (h:∀ x y,cf x = some y->∃ F,fn189 g190 g157 g219 g163 F x = some y):KOne Tryz.prog 189 ⟨[.v poly,.v ex,.v i64],[poly],true,false,0,cf⟩ :=
  fn_one rfl (c:=bodyOf Tryz.f189) mixed tt_ok hK Tryz.func189 (by kernel_rfl) (by kernel_rfl) (Nat.le_of_ble_eq_true (by kernel_rfl)) (by decide) fun x y hxy => by
    obtain ⟨F,hF⟩:=h x y hxy
    exact ⟨[(5,ls189_5 g190 g157 g219 g163 F)],LTOK_by (l:=[loopOf Tryz.f189 5]) (by kernel_rfl) ⟨ls_at (by kernel_rfl) (ok189_5 g190 g157 g219 g163 F hK),trivial⟩,(ev189 g190 g157 g219 g163 F x).trans hF⟩
abbrev R121:Type:=Ress [poly,.bool]
abbrev G121:Type:=Args [.v poly,.v poly]->Option R121
abbrev kp121:List (Nat × List Nat):=[(0,[2,3,4]),(1,[2,3,6,4]),(2,[25,2,3,6,4]),(3,[5,4]),(4,[32,3,2,6,4]),(5,[5,4]),(6,[2,7,3,6,4]),(7,[38,6,3,7,2,4]),(9,[8,6,3,7,2,4]),(10,[45,8,6,3,7,2,4]),(12,[9,10,8,6,3,7,2,4]),(13,[8,6,3,7,2,4]),(11,[8,6,3,7,2,4]),(8,[2,7,3,6,4]),(14,[5,4])]
abbrev ct121 (g190:G190) (g84:G84) (g189:G189):CTab:=[(190,⟨[.v i64,.v i64],[poly],true,false,0,g190⟩),(84,⟨[.v poly],[i64],false,false,0,g84⟩),(189,⟨[.v poly,.v ex,.v i64],[poly],true,false,0,g189⟩)]
abbrev kr121:Env->Option R121:=endK TT [.cell 4 34,.tmp 5] [poly,.bool] true false
abbrev sh121_10:Shape:=[(2,.box false [.fz i64 0 false,.fz i64 0 false,.fz (.slice 135 term) 0 true]),(3,.box false [.fz i64 0 false,.fz i64 0 false,.fz (.slice 135 term) 0 true]),(4,.box false [.fz i64 0 false,.fz i64 0 false,.rt 135 term 67 false true true]),(6,.box false [.fz i64 0 false,.fz i64 0 false,.rt 135 term 99 false true false]),(7,vv i64),(8,vv i64)]
def st121_10 (g190:G190) (g84:G84) (g189:G189) (F:Nat) (s:ShVal sh121_10) (k kx:ShVal sh121_10->Option R121):Option R121 :=
  match s with
  | ((t2_0,t2_1,t2_2,_),(t3_0,t3_1,t3_2,_),(t4_0,t4_1,t4_2,_),(t6_0,t6_1,t6_2,_),(t7,_),(t8,_),_) => (bif decide ((List.length t3_2) ≤ 9223372036854775807) then (bif decide (t8 < (Int.ofNat (List.length t3_2))) then (bif ib t7 (Int.ofNat (List.length t2_2)) then (bif ib t8 (Int.ofNat (List.length t3_2)) then (match (g189 ((t6_0,(t6_1,(t6_2,()))),((tset (w8 ((tget (0:Int) 3 (List.getD t2_2 (tn t7) (Ty.dflt (.pair (.arr 3 (.int .u8)) (.pair (.int .i64) .unit)))).1 (tn (2:Int))) + (tget (0:Int) 3 (List.getD t3_2 (tn t8) (Ty.dflt (.pair (.arr 3 (.int .u8)) (.pair (.int .i64) .unit)))).1 (tn (2:Int))))) 3 (tset (w8 ((tget (0:Int) 3 (List.getD t2_2 (tn t7) (Ty.dflt (.pair (.arr 3 (.int .u8)) (.pair (.int .i64) .unit)))).1 (tn (1:Int))) + (tget (0:Int) 3 (List.getD t3_2 (tn t8) (Ty.dflt (.pair (.arr 3 (.int .u8)) (.pair (.int .i64) .unit)))).1 (tn (1:Int))))) 3 (tset (w8 ((tget (0:Int) 3 (List.getD t2_2 (tn t7) (Ty.dflt (.pair (.arr 3 (.int .u8)) (.pair (.int .i64) .unit)))).1 (tn (0:Int))) + (tget (0:Int) 3 (List.getD t3_2 (tn t8) (Ty.dflt (.pair (.arr 3 (.int .u8)) (.pair (.int .i64) .unit)))).1 (tn (0:Int))))) 3 (tup Int (0:Int) 3) 0) 1) 2),((w6 ((List.getD t2_2 (tn t7) (Ty.dflt (.pair (.arr 3 (.int .u8)) (.pair (.int .i64) .unit)))).2.1 * (List.getD t3_2 (tn t8) (Ty.dflt (.pair (.arr 3 (.int .u8)) (.pair (.int .i64) .unit)))).2.1)),())))) with | some r45 => k ((t2_0,(t2_1,(t2_2,()))),((t3_0,(t3_1,(t3_2,()))),((t4_0,(t4_1,(t4_2,()))),((r45.1.1,(r45.1.2.1,(r45.1.2.2.1,()))),((t7,()),(((w6 (t8 + (1:Int))),()),())))))) | none => none) else none) else none) else kx ((t2_0,(t2_1,(t2_2,()))),((t3_0,(t3_1,(t3_2,()))),((t4_0,(t4_1,(t4_2,()))),((t6_0,(t6_1,(t6_2,()))),((t7,()),((t8,()),()))))))) else none)
def ru121_10 (g190:G190) (g84:G84) (g189:G189) (F:Nat) (s:ShVal sh121_10) (kx:ShVal sh121_10->Option R121):Option R121:=iter (fun s k => st121_10 g190 g84 g189 F s k kx) F s
abbrev ls121_10 (g190:G190) (g84:G84) (g189:G189) (F:Nat):LS R121:=⟨sh121_10,2,ru121_10 g190 g84 g189 F⟩
abbrev sh121_7:Shape:=[(2,.box false [.fz i64 0 false,.fz i64 0 false,.fz (.slice 135 term) 0 true]),(3,.box false [.fz i64 0 false,.fz i64 0 false,.fz (.slice 135 term) 0 true]),(4,.box false [.fz i64 0 false,.fz i64 0 false,.rt 135 term 67 false true true]),(6,.box false [.fz i64 0 false,.fz i64 0 false,.rt 135 term 99 false true false]),(7,vv i64)]
def st121_7 (g190:G190) (g84:G84) (g189:G189) (F:Nat) (s:ShVal sh121_7) (k kx:ShVal sh121_7->Option R121):Option R121 :=
  match s with
  | ((t2_0,t2_1,t2_2,_),(t3_0,t3_1,t3_2,_),(t4_0,t4_1,t4_2,_),(t6_0,t6_1,t6_2,_),(t7,_),_) => (bif decide ((List.length t2_2) ≤ 9223372036854775807) then (bif decide (t7 < (Int.ofNat (List.length t2_2))) then (ru121_10 g190 g84 g189 F ((t2_0,(t2_1,(t2_2,()))),((t3_0,(t3_1,(t3_2,()))),((t4_0,(t4_1,(t4_2,()))),((t6_0,(t6_1,(t6_2,()))),((t7,()),(((0:Int),()),())))))) (fun s' => match s' with | ((t2_0,t2_1,t2_2,_),(t3_0,t3_1,t3_2,_),(t4_0,t4_1,t4_2,_),(t6_0,t6_1,t6_2,_),(t7,_),(t8,_),_) => k ((t2_0,(t2_1,(t2_2,()))),((t3_0,(t3_1,(t3_2,()))),((t4_0,(t4_1,(t4_2,()))),((t6_0,(t6_1,(t6_2,()))),(((w6 (t7 + (1:Int))),()),()))))))) else kx ((t2_0,(t2_1,(t2_2,()))),((t3_0,(t3_1,(t3_2,()))),((t4_0,(t4_1,(t4_2,()))),((t6_0,(t6_1,(t6_2,()))),((t7,()),())))))) else none)
def ru121_7 (g190:G190) (g84:G84) (g189:G189) (F:Nat) (s:ShVal sh121_7) (kx:ShVal sh121_7->Option R121):Option R121:=iter (fun s k => st121_7 g190 g84 g189 F s k kx) F s
abbrev ls121_7 (g190:G190) (g84:G84) (g189:G189) (F:Nat):LS R121:=⟨sh121_7,0,ru121_7 g190 g84 g189 F⟩
def fn121 (g190:G190) (g84:G84) (g189:G189) (F:Nat) (x:Args [.v poly,.v poly]):Option R121 :=
  match x with
  | (x0,x1,_) => (match (g190 (x0.1,(x0.2.1,()))) with | some r7 => (bif decide ((List.length x0.2.2.1) ≤ 9223372036854775807) then (bif decide ((Int.ofNat (List.length x0.2.2.1)) = (0:Int)) then (some ((r7.1.1,(r7.1.2.1,(r7.1.2.2.1,()))),(true,()))) else (bif decide ((List.length x1.2.2.1) ≤ 9223372036854775807) then (bif (bif false then true else decide ((Int.ofNat (List.length x1.2.2.1)) = (0:Int))) then (some ((r7.1.1,(r7.1.2.1,(r7.1.2.2.1,()))),(true,()))) else (match (g84 ((x0.1,(x0.2.1,(x0.2.2.1,()))),())) with | some r10 => (match (g84 ((x1.1,(x1.2.1,(x1.2.2.1,()))),())) with | some r11 => (bif decide ((12:Int) < (w6 (r10.1 + r11.1))) then (some ((r7.1.1,(r7.1.2.1,(r7.1.2.2.1,()))),(false,()))) else (ru121_7 g190 g84 g189 F ((x0.1,(x0.2.1,(x0.2.2.1,()))),((x1.1,(x1.2.1,(x1.2.2.1,()))),(((Ty.dflt (.pair (.int .i64) (.pair (.int .i64) (.pair (.slice 135 (.pair (.arr 3 (.int .u8)) (.pair (.int .i64) .unit))) .unit)))).1,((Ty.dflt (.pair (.int .i64) (.pair (.int .i64) (.pair (.slice 135 (.pair (.arr 3 (.int .u8)) (.pair (.int .i64) .unit))) .unit)))).2.1,((Ty.dflt (.pair (.int .i64) (.pair (.int .i64) (.pair (.slice 135 (.pair (.arr 3 (.int .u8)) (.pair (.int .i64) .unit))) .unit)))).2.2.1,()))),((r7.1.1,(r7.1.2.1,(r7.1.2.2.1,()))),(((0:Int),()),()))))) (fun s' => match s' with | ((t2_0,t2_1,t2_2,_),(t3_0,t3_1,t3_2,_),(t4_0,t4_1,t4_2,_),(t6_0,t6_1,t6_2,_),(t7,_),_) => (some ((t6_0,(t6_1,(t6_2,()))),(true,())))))) | none => none) | none => none)) else none)) else none) | none => none)
theorem ev121_10 (g190:G190) (g84:G84) (g189:G189) (F:Nat) (s:ShVal sh121_10) (k kx:ShVal sh121_10->Option R121):evL TT (ct121 g190 g84 g189 ) kp121 [] (loopOf Tryz.f121 10) (envOf sh121_10 s) (fitK sh121_10 k) (fun j e => bif Nat.beq j 2 then fitK sh121_10 kx e else none) kr121 = st121_10 g190 g84 g189 F s k kx:=by
  obtain ⟨⟨t2_0,t2_1,t2_2,_⟩,⟨t3_0,t3_1,t3_2,_⟩,⟨t4_0,t4_1,t4_2,_⟩,⟨t6_0,t6_1,t6_2,_⟩,⟨t7,_⟩,⟨t8,_⟩,_⟩:=s
  kernel_rfl
theorem ok121_10 (g190:G190) (g84:G84) (g189:G189) (F:Nat) (hK:KOK Tryz.prog (ct121 g190 g84 g189 )):LSOK Tryz.prog ⟨88,false,undef⟩ (ls121_10 g190 g84 g189 F) (loopOf Tryz.f121 10) kr121 :=
  loop_ok (st121_10 g190 g84 g189 F) mixed tt_ok hK (by kernel_rfl) (LTOK_by (l:=[]) (by kernel_rfl) trivial) (ev121_10 g190 g84 g189 F)
theorem ev121_7 (g190:G190) (g84:G84) (g189:G189) (F:Nat) (s:ShVal sh121_7) (k kx:ShVal sh121_7->Option R121):evL TT (ct121 g190 g84 g189 ) kp121 [(10,ls121_10 g190 g84 g189 F)] (loopOf Tryz.f121 7) (envOf sh121_7 s) (fitK sh121_7 k) (fun j e => bif Nat.beq j 0 then fitK sh121_7 kx e else none) kr121 = st121_7 g190 g84 g189 F s k kx:=by
  obtain ⟨⟨t2_0,t2_1,t2_2,_⟩,⟨t3_0,t3_1,t3_2,_⟩,⟨t4_0,t4_1,t4_2,_⟩,⟨t6_0,t6_1,t6_2,_⟩,⟨t7,_⟩,_⟩:=s
  kernel_rfl
theorem ok121_7 (g190:G190) (g84:G84) (g189:G189) (F:Nat) (hK:KOK Tryz.prog (ct121 g190 g84 g189 )):LSOK Tryz.prog ⟨88,false,undef⟩ (ls121_7 g190 g84 g189 F) (loopOf Tryz.f121 7) kr121 :=
  loop_ok (st121_7 g190 g84 g189 F) mixed tt_ok hK (by kernel_rfl) (LTOK_by (l:=[loopOf Tryz.f121 10]) (by kernel_rfl) ⟨ls_at (by kernel_rfl) (ok121_10 g190 g84 g189 F hK),trivial⟩) (ev121_7 g190 g84 g189 F)
theorem ev121 (g190:G190) (g84:G84) (g189:G189) (F:Nat) (x:Args [.v poly,.v poly]):fnK TT (ct121 g190 g84 g189 ) kp121 [poly,.bool] [(7,ls121_7 g190 g84 g189 F)] (bodyOf Tryz.f121) [.cell 4 34,.tmp 5] [.v poly,.v poly] true false x = fn121 g190 g84 g189 F x:=by
  obtain ⟨x0,x1,_⟩:=x
  kernel_rfl
theorem ok121 (g190:G190) (g84:G84) (g189:G189) (hK:KOK Tryz.prog (ct121 g190 g84 g189 )) (cf:G121) (h:∀ x y,cf x = some y->∃ F,fn121 g190 g84 g189 F x = some y):KOne Tryz.prog 121 ⟨[.v poly,.v poly],[poly,.bool],true,false,0,cf⟩ :=
  fn_one rfl (c:=bodyOf Tryz.f121) mixed tt_ok hK Tryz.func121 (by kernel_rfl) (by kernel_rfl) (Nat.le_of_ble_eq_true (by kernel_rfl)) (by decide) fun x y hxy => by
    obtain ⟨F,hF⟩:=h x y hxy
    exact ⟨[(7,ls121_7 g190 g84 g189 F)],LTOK_by (l:=[loopOf Tryz.f121 7]) (by kernel_rfl) ⟨ls_at (by kernel_rfl) (ok121_7 g190 g84 g189 F hK),trivial⟩,(ev121 g190 g84 g189 F x).trans hF⟩
abbrev R120:Type:=Ress [poly]
abbrev G120:Type:=Args [.v i64,.v i64,.v ex,.v i64]->Option R120
abbrev kp120:List (Nat × List Nat):=[(0,[0,1,6,3,8]),(1,[8])]
abbrev ct120 (g190:G190) (g189:G189):CTab:=[(190,⟨[.v i64,.v i64],[poly],true,false,0,g190⟩),(189,⟨[.v poly,.v ex,.v i64],[poly],true,false,0,g189⟩)]
def fn120 (g190:G190) (g189:G189) (F:Nat) (x:Args [.v i64,.v i64,.v ex,.v i64]):Option R120 :=
  match x with
  | (x0,x1,x2,x3,_) => (match (g190 (x0,(x1,()))) with | some r8 => (match (g189 ((r8.1.1,(r8.1.2.1,(r8.1.2.2.1,()))),(x2,(x3,())))) with | some r9 => (some ((r9.1.1,(r9.1.2.1,(r9.1.2.2.1,()))),())) | none => none) | none => none)
theorem ev120 (g190:G190) (g189:G189) (F:Nat) (x:Args [.v i64,.v i64,.v ex,.v i64]):fnK TT (ct120 g190 g189 ) kp120 [poly] [] (bodyOf Tryz.f120) [.cell 8 34] [.v i64,.v i64,.v ex,.v i64] true false x = fn120 g190 g189 F x:=by
  obtain ⟨x0,x1,x2,x3,_⟩:=x
  kernel_rfl
theorem ok120 (g190:G190) (g189:G189) (hK:KOK Tryz.prog (ct120 g190 g189 )) (cf:G120) (h:∀ x y,cf x = some y->∃ F,fn120 g190 g189 F x = some y):KOne Tryz.prog 120 ⟨[.v i64,.v i64,.v ex,.v i64],[poly],true,false,0,cf⟩ :=
  fn_one rfl (c:=bodyOf Tryz.f120) mixed tt_ok hK Tryz.func120 (by kernel_rfl) (by kernel_rfl) (Nat.le_of_ble_eq_true (by kernel_rfl)) (by decide) fun x y hxy => by
    obtain ⟨F,hF⟩:=h x y hxy
    exact ⟨[],LTOK_by (l:=[]) (by kernel_rfl) trivial,(ev120 g190 g189 F x).trans hF⟩
open Go Go.RowKit Go.Proofs
def cf97:G190:=fun x => some ((x.1,x.2.1,[],()),())
theorem k97:KOne Tryz.prog 190 ⟨[.v i64,.v i64],[poly],true,false,0,cf97⟩:=ok190 .nil cf97 fun x y h => by
  obtain ⟨p,v,_⟩:=x
  simp only [cf97] at h
  injection h with h; subst h
  exact ⟨0,rfl⟩
theorem run158 (a b c:Int) (h:okN a b c):fn158 0 ((a,b,c,()),()) = some ((a + b + c:Int),()):=by
  unfold okN at h
  show some (w6 (w6 (w6 a + w6 b) + w6 c),()) = _
  rw [w6_i (x:=a) (by omega) (by omega),w6_i (x:=b) (by omega) (by omega),w6_i (x:=c) (by omega) (by omega),w6_i (x:=a + b) (by omega) (by omega),w6_i (by omega) (by omega)]
def cf158:G158:=fun x => if okX x.1 then some (degX x.1,()) else none
theorem k158:KOne Tryz.prog 158 ⟨[.v ex],[i64],false,false,0,cf158⟩:=ok158 .nil cf158 fun x y h => by
  obtain ⟨e,_⟩:=x
  simp only [cf158] at h
  split at h
  · rename_i hc
    injection h with h; subst h
    exact ⟨0,run158 e.1 e.2.1 e.2.2.1 hc⟩
  · cases h
theorem run147 (a b c a' b' c':Int) (h:okN a b c) (h':okN a' b' c') (e1:cf158 ((a,b,c,()),()) = some ((a + b + c:Int),())) (e2:cf158 ((a',b',c',()),()) = some ((a' + b' + c':Int),())) :
    fn157 cf158 0 ((a,b,c,()),(a',b',c',()),()) = some (decide (key3 a b c < key3 a' b' c'),()):=by
  have hk:=cmp3_key h h'
  unfold okN at h h'
  simp only [fn157,e1,e2]
  show (bif !decide (a + b + c = a' + b' + c') then some (decide (a + b + c < a' + b' + c'),()) else bif !decide (a = a') then some (decide (a' < a),()) else some (decide (b' < b),())) = _
  unfold cmp3 at hk
  by_cases h1:a + b + c = a' + b' + c'
  · have h1':(a + b + c) - (a' + b' + c') = 0:=by omega
    rw [if_pos h1'] at hk
    by_cases h2:a = a'
    · rw [if_pos h2] at hk
      have:decide (b' < b) = decide (key3 a b c < key3 a' b' c'):=decide_eq_decide.2 ⟨fun q => hk.1 (by omega),fun q => by have:=hk.2 q; omega⟩
      rw [decide_eq_true h1,decide_eq_true h2,this]; rfl
    · rw [if_neg h2] at hk
      have:decide (a' < a) = decide (key3 a b c < key3 a' b' c'):=decide_eq_decide.2 ⟨fun q => hk.1 (by omega),fun q => by have:=hk.2 q; omega⟩
      rw [decide_eq_true h1,decide_eq_false h2,this]; rfl
  · rw [if_neg (by omega)] at hk
    have:decide (a + b + c < a' + b' + c') = decide (key3 a b c < key3 a' b' c'):=decide_eq_decide.2 ⟨fun q => hk.1 (by omega),fun q => by have:=hk.2 q; omega⟩
    rw [decide_eq_false h1,this]; rfl
def cf147:G157:=fun x => if okX x.1 ∧ okX x.2.1 then some (decide (keyX x.1 < keyX x.2.1),()) else none
theorem k147:KOne Tryz.prog 157 ⟨[.v ex,.v ex],[.bool],false,false,0,cf147⟩:=ok157 _ (.cons k158 .nil) cf147 fun x y h => by
  obtain ⟨a,b,_⟩:=x
  simp only [cf147] at h
  split at h
  · rename_i hc
    injection h with h; subst h
    have e1:cf158 (a,()) = some (degX a,()):=if_pos hc.1
    have e2:cf158 (b,()) = some (degX b,()):=if_pos hc.2
    exact ⟨0,run147 a.1 a.2.1 a.2.2.1 b.1 b.2.1 b.2.2.1 hc.1 hc.2 e1 e2⟩
  · cases h
theorem getD_pre {α : Type} {pre r:List α} {t d : α}:(pre ++ t :: r).getD pre.length d = t:=by
  rw [List.getD_eq_getElem?_getD,List.getElem?_append_right (Nat.le_refl _)]; simp
theorem run146 {p v:Int} {e:ex.den}:∀ (r pre:List term.den) (F:Nat),r.length < F->(pre ++ r).length ≤ 1000000 →
    iter (fun s k => st163_2 0 s k (fun s' => match s' with | ((t2_0,t2_1,t2_2,_),(t3,_),(t5,_),_) => (some ((0:Int),())))) F ((p,v,pre ++ r,()),((e,()),(((pre.length:Int),()),()))) = some (coT r e,())
  | [],pre,F,hF,hl => by
    obtain ⟨F,rfl⟩:∃ f,F = f + 1:=⟨F - 1,by simp at hF; omega⟩
    rw [List.append_nil] at hl ⊢
    simp only [iter,st163_2]
    simp (disch:=omega) only [dln_t,cond_true,ofn,dlt_f,cond_false]
    rfl
  | t :: r,pre,F,hF,hl => by
    obtain ⟨F,rfl⟩:∃ f,F = f + 1:=⟨F - 1,by simp at hF; omega⟩
    have hpl:pre.length < (pre ++ t :: r).length:=by simp
    simp only [iter,st163_2]
    simp (disch:=omega) only [dln_t,cond_true,ofn,dlt_t,ib_t,tn_cast,getD_pre]
    simp only [coT]
    by_cases q:t.1 = e
    · have:Ty.eqd (.arr 3 (.int .u8)) t.1 e = true:=(eqd_key keyT_ex).2 q
      rw [this,if_pos q]; rfl
    · have:Ty.eqd (.arr 3 (.int .u8)) t.1 e = false:=Bool.eq_false_iff.2 fun z => q ((eqd_key keyT_ex).1 z)
      rw [this,if_neg q,cond_false]
      have wi:w6 ((pre.length:Int) + 1) = ((pre ++ [t]).length:Int):=by rw [w6_i (by omega) (by omega)]; simp
      rw [wi,show pre ++ t :: r = (pre ++ [t]) ++ r by simp]
      exact run146 r (pre ++ [t]) F (by simp at hF; omega) (by simpa using hl)
def cf146:G163:=fun x => if (show List term.den from x.1.2.2.1).length ≤ 1000000 then some (coT x.1.2.2.1 x.2.1,()) else none
theorem k146:KOne Tryz.prog 163 ⟨[.v poly,.v ex],[i64],false,false,0,cf146⟩:=ok163 .nil cf146 fun x y h => by
  obtain ⟨⟨p,v,ts,_⟩,e,_⟩:=x
  simp only [cf146] at h
  split at h
  · rename_i hc
    injection h with h; subst h
    exact ⟨ts.length + 1,run146 (p:=p) (v:=v) (e:=e) ts [] (ts.length + 1) (by omega) (by simpa using hc)⟩
  · cases h
noncomputable def S98 (F0:Nat):ShVal sh189_5->(ShVal sh189_5->Option R189)->Option R189:=fun s k => st189_5 cf97 cf147 cf74 cf146 F0 s k (fun s' => match s' with | ((t2,_),(t3_0,t3_1,t3_2,_),(t4,_),(t6_0,t6_1,t6_2,_),(t7_0,t7_1,t7_2,_),(t8,_),(t9,_),_) => (bif (!t8) then (bif (growOk (List.length t7_2) (List.length ((t4,(t2,())) :: []))) then (some ((t7_0,(t7_1,((t7_2 ++ ((t4,(t2,())) :: [])),()))),())) else none) else (some ((t7_0,(t7_1,(t7_2,()))),()))))
theorem run98 {p v c:Int} {e:ex.den} {z:poly.den} {F0:Nat} (he:okX e):∀ (r pre out:List term.den) (done:Bool) (F:Nat),r.length < F->(pre ++ r).length ≤ 1000000->out.length + 2 * r.length ≤ 10000000->(∀ t ∈ r,okX t.1) →
    iter (S98 F0) F
      ((c,()),((p,v,pre ++ r,()),((e,()),((z.1,z.2.1,z.2.2.1,()),((p,v,out,()),((done,()),(((pre.length:Int),()),()))))))) = some ((p,v,out ++ goP e c done r,()),())
  | [],pre,out,done,F,hF,hl,ho,hk => by
    obtain ⟨F,rfl⟩:∃ f,F = f + 1:=⟨F - 1,by simp at hF; omega⟩
    rw [List.append_nil] at hl ⊢
    have hg:growOk out.length 1 = true:=grow_t (by simp at ho; omega)
    simp only [iter,S98,st189_5]
    simp (disch:=omega) only [dln_t,cond_true,ofn,dlt_f,cond_false]
    cases done with
    | false => simp only [Bool.not_false,cond_true,goP,cond_false,List.length_cons,List.length_nil,Nat.zero_add,hg]
    | true => simp only [Bool.not_true,cond_false,goP,cond_true,List.append_nil]
  | t :: r,pre,out,done,F,hF,hl,ho,hk => by
    obtain ⟨F,rfl⟩:∃ f,F = f + 1:=⟨F - 1,by simp at hF; omega⟩
    have hpl:pre.length < (pre ++ t :: r).length:=by simp
    have ho':out.length + 2 * r.length + 2 ≤ 10000000:=by simp at ho; omega
    have hg1:growOk out.length 1 = true:=grow_t (by omega)
    have hg2:growOk (out.length + 1) 1 = true:=grow_t (by omega)
    have g:cf147 (e,t.1,()) = some (decide (keyX e < keyX t.1),()):=if_pos ⟨he,hk t (.head _)⟩
    have wi:w6 ((pre.length:Int) + 1) = ((pre ++ [t]).length:Int):=by rw [w6_i (by omega) (by omega)]; simp
    have ih:=fun out done h => run98 (p:=p) (v:=v) (c:=c) (z:=z) (F0:=F0) he r (pre ++ [t]) out done F (by simp at hF; omega) (by simpa using hl) h (fun s hs => hk s (.tail _ hs))
    rw [show (pre ++ [t]) ++ r = pre ++ t :: r by simp,← wi] at ih
    have q1:(t.1 = e->Ty.eqd (.arr 3 (.int .u8)) t.1 e = true) ∧ (t.1 ≠ e->Ty.eqd (.arr 3 (.int .u8)) t.1 e = false):=⟨fun q => (eqd_key keyT_ex).2 q,fun q => Bool.eq_false_iff.2 fun z => q ((eqd_key keyT_ex).1 z)⟩
    show S98 F0 _ (iter (S98 F0) F) = _
    generalize iter (S98 F0) F = K at ih ⊢
    simp only [S98,st189_5]
    simp (disch:=omega) only [dln_t,cond_true,ofn,dlt_t,ib_t,tn_cast,getD_pre,g,List.length_cons,List.length_nil,List.length_append,Nat.zero_add,hg1,hg2]
    cases done with
    | true =>
      by_cases q:t.1 = e
      · simp only [Bool.not_true,cond_false,q1.1 q]
        rw [ih out true (by omega)]
        simp [goP,q]
      · simp only [Bool.not_true,cond_false,q1.2 q,Bool.not_false,cond_true]
        rw [show ((t.1,t.2.1,()):term.den) = t from rfl,ih (out ++ [t]) true (by simp; omega)]
        simp [goP,q]
    | false =>
      by_cases kq:keyX e < keyX t.1
      · have hne:t.1 ≠ e:=key_neq kq
        simp only [Bool.not_false,cond_true,decide_eq_true kq,q1.2 hne]
        rw [show ((t.1,t.2.1,()):term.den) = t from rfl,ih (out ++ [(e,c,())] ++ [t]) true (by simp; omega)]
        have:decide (keyX e < keyT3 t) = true:=decide_eq_true kq
        simp [goP,hne,this]
      · by_cases q:t.1 = e
        · simp only [Bool.not_false,cond_true,decide_eq_false kq,cond_false,q1.1 q,Bool.not_true]
          rw [ih out false (by omega)]
          have:decide (keyX e < keyT3 t) = false:=decide_eq_false kq
          simp [goP,q,this]
        · simp only [Bool.not_false,cond_true,decide_eq_false kq,cond_false,q1.2 q]
          rw [show ((t.1,t.2.1,()):term.den) = t from rfl,ih (out ++ [t]) false (by simp; omega)]
          have:decide (keyX e < keyT3 t) = false:=decide_eq_false kq
          simp [goP,q,this]
noncomputable def c98 (p v:Int) (ts:List term.den) (e:ex.den) (x:Int):Option (poly.den × Unit):=by
  classical exact if 0 < p ∧ p ≤ 1000000 ∧ CanT p ts ∧ okX e ∧ -1000000000000 ≤ x ∧ x ≤ 1000000000000 ∧ ts.length ≤ 1000000 then some ((p,v,putP p ts e x,()),()) else none
noncomputable def cf98:G189:=fun x => c98 x.1.1 x.1.2.1 x.1.2.2.1 x.2.1 x.2.2.1
theorem coT_rng {p:Int} {ts:List term.den} {e:ex.den} (hp : 0 < p) (h:CanT p ts) : 0 ≤ coT ts e ∧ coT ts e < p:=by
  by_cases q:∃ t ∈ ts,t.1 = e
  · obtain ⟨t,ht,rfl⟩:=q
    rw [coT_mem h ht]
    have:=(h.ok t ht).2
    exact ⟨Int.le_of_lt this.1,this.2⟩
  · rw [coT_none fun t ht z => q ⟨t,ht,z⟩]; exact ⟨Int.le_refl _,hp⟩
theorem k98:KOne Tryz.prog 189 ⟨[.v poly,.v ex,.v i64],[poly],true,false,0,cf98⟩:=ok189 _ _ _ _ (.cons k97 (.cons k147 (.cons k74 (.cons k146 .nil)))) cf98 fun x y h => by
  obtain ⟨⟨p,v,ts,_⟩,e,x,_⟩:=x
  simp only [cf98,c98] at h
  split at h
  · rename_i hc
    injection h with h; subst h
    obtain ⟨h1,h2,h3,h4,h5,h6,h7⟩:=hc
    have hr:=coT_rng (e:=e) h1 h3
    refine ⟨ts.length + 1,?_⟩
    have g1:cf146 ((p,v,ts,()),e,()) = some (coT ts e,()):=if_pos h7
    have g2:cf74 (p,w6 (x + coT ts e),()) = some ((x + coT ts e) % p,()):=by rw [w6_i (by omega) (by omega)]; exact g74_ok (by omega)
    simp only [fn189,g1,g2]
    exact run98 (F0:=ts.length + 1) h4 ts [] [] _ (ts.length + 1) (by omega) (by simpa using h7) (by simp; omega) (fun t ht => (h3.ok t ht).1)
  · cases h
theorem goP_len {e:ex.den} {c:Int}:∀ (ts:List term.den) (d:Bool),(goP e c d ts).length ≤ ts.length + (bif d then 0 else 1)
  | [],d => by cases d <;> simp [goP]
  | t :: r,d => by
    have ih:=goP_len (e:=e) (c:=c) r (d || decide (keyX e < keyT3 t))
    have h1:(if t.1 = e then ([]:List term.den) else [t]).length ≤ 1:=by split <;> simp
    simp only [goP,List.length_append,List.length_cons]
    cases d with
    | true => simp only [Bool.true_or,cond_true,Bool.not_true,Bool.false_and,cond_false,List.length_nil] at ih ⊢; omega
    | false =>
      cases hq:decide (keyX e < keyT3 t) with
      | true => simp only [hq,Bool.false_or,cond_true,Bool.not_false,Bool.true_and,cond_false,List.length_cons,List.length_nil] at ih ⊢; omega
      | false => simp only [hq,Bool.false_or,Bool.not_false,Bool.true_and,cond_false,List.length_nil] at ih ⊢; omega
theorem putP_len {p:Int} {ts:List term.den} {e:ex.den} {x:Int}:(putP p ts e x).length ≤ ts.length + 1:=by
  have:=goP_len (e:=e) (c:=(x + coT ts e) % p) ts (decide ((x + coT ts e) % p = 0))
  unfold putP
  cases h:decide ((x + coT ts e) % p = 0) <;> rw [h] at this <;> simp at this <;> omega
theorem g98_ok {p v:Int} {ts:List term.den} {e:ex.den} {x:Int} (h : 0 < p ∧ p ≤ 1000000 ∧ CanT p ts ∧ okX e ∧ -1000000000000 ≤ x ∧ x ≤ 1000000000000 ∧ ts.length ≤ 1000000):cf98 ((p,v,ts,()),e,x,()) = some ((p,v,putP p ts e x,()),()):=if_pos h
abbrev R175:Type:=Ress [poly]
abbrev G175:Type:=Args [.v i64,.v i64,.v ex,.v i64]->Option R175
abbrev kp175:List (Nat × List Nat):=[(0,[6,3,0,1,8]),(1,[8])]
abbrev ct175 (g199:G199):CTab:=[(199,⟨[.m ex i64,.v i64,.v i64],[poly],true,false,0,g199⟩)]
def fn175 (g199:G199) (F:Nat) (x:Args [.v i64,.v i64,.v ex,.v i64]):Option R175 :=
  match x with
  | (x0,x1,x2,x3,_) => (match (g199 (((x2,x3) :: []),(x0,(x1,())))) with | some r7 => (some ((r7.1.1,(r7.1.2.1,(r7.1.2.2.1,()))),())) | none => none)
theorem ev175 (g199:G199) (F:Nat) (x:Args [.v i64,.v i64,.v ex,.v i64]):fnK TT (ct175 g199 ) kp175 [poly] [] (bodyOf Tryz.f175) [.cell 8 34] [.v i64,.v i64,.v ex,.v i64] true false x = fn175 g199 F x:=by
  obtain ⟨x0,x1,x2,x3,_⟩:=x
  kernel_rfl
theorem ok175 (g199:G199) (hK:KOK Tryz.prog (ct175 g199 )) (cf:G175) (h:∀ x y,cf x = some y->∃ F,fn175 g199 F x = some y):KOne Tryz.prog 175 ⟨[.v i64,.v i64,.v ex,.v i64],[poly],true,false,0,cf⟩ :=
  fn_one rfl (c:=bodyOf Tryz.f175) mixed tt_ok hK Tryz.func175 (by kernel_rfl) (by kernel_rfl) (Nat.le_of_ble_eq_true (by kernel_rfl)) (by decide) fun x y hxy => by
    obtain ⟨F,hF⟩:=h x y hxy
    exact ⟨[],LTOK_by (l:=[]) (by kernel_rfl) trivial,(ev175 g199 F x).trans hF⟩
abbrev R126:Type:=Ress [poly]
abbrev G126:Type:=Args [.v i64,.v i64,.v i64]->Option R126
abbrev kp126:List (Nat × List Nat):=[(0,[0,1,2,6]),(1,[6])]
abbrev ct126 (g175:G175):CTab:=[(175,⟨[.v i64,.v i64,.v ex,.v i64],[poly],true,false,0,g175⟩)]
def fn126 (g175:G175) (F:Nat) (x:Args [.v i64,.v i64,.v i64]):Option R126 :=
  match x with
  | (x0,x1,x2,_) => (match (g175 (x0,(x1,((tup Int (0:Int) 3),(x2,()))))) with | some r6 => (some ((r6.1.1,(r6.1.2.1,(r6.1.2.2.1,()))),())) | none => none)
theorem ev126 (g175:G175) (F:Nat) (x:Args [.v i64,.v i64,.v i64]):fnK TT (ct126 g175 ) kp126 [poly] [] (bodyOf Tryz.f126) [.cell 6 34] [.v i64,.v i64,.v i64] true false x = fn126 g175 F x:=by
  obtain ⟨x0,x1,x2,_⟩:=x
  kernel_rfl
theorem ok126 (g175:G175) (hK:KOK Tryz.prog (ct126 g175 )) (cf:G126) (h:∀ x y,cf x = some y->∃ F,fn126 g175 F x = some y):KOne Tryz.prog 126 ⟨[.v i64,.v i64,.v i64],[poly],true,false,0,cf⟩ :=
  fn_one rfl (c:=bodyOf Tryz.f126) mixed tt_ok hK Tryz.func126 (by kernel_rfl) (by kernel_rfl) (Nat.le_of_ble_eq_true (by kernel_rfl)) (by decide) fun x y hxy => by
    obtain ⟨F,hF⟩:=h x y hxy
    exact ⟨[],LTOK_by (l:=[]) (by kernel_rfl) trivial,(ev126 g175 F x).trans hF⟩
abbrev R127:Type:=Ress [poly]
abbrev G127:Type:=Args [.v poly,.v poly]->Option R127
abbrev kp127:List (Nat × List Nat):=[(0,[2,3,4]),(1,[5,2,3,4]),(2,[15,5,2,3,13,4,14]),(3,[16,2,5,15,3,13,4,14]),(4,[2,7,5,15,3,13,4,14]),(5,[22,2,7,5,20,15,3,13,4,14,21]),(6,[23,22,2,7,5,20,15,3,13,4,14,21]),(7,[9,22,2,7,5,20,15,3,13,4,14,21]),(8,[10,9,22,2,7,5,20,15,3,13,4,14,21]),(9,[22,2,7,5,20,15,3,13,4,14,21]),(10,[22,2,7,5,20,15,3,13,4,14,21]),(11,[15,5,2,3,13,4,14]),(12,[4])]
abbrev ct127 (g199:G199):CTab:=[(199,⟨[.m ex i64,.v i64,.v i64],[poly],true,false,0,g199⟩)]
abbrev kr127:Env->Option R127:=endK TT [.cell 4 34] [poly] true false
abbrev sh127_6:Shape:=[(2,.box false [.fz i64 0 false,.fz i64 0 false,.fz (.slice 135 term) 0 true]),(3,.box false [.fz i64 0 false,.fz i64 0 false,.fz (.slice 135 term) 0 true]),(4,.box false [.fz i64 0 false,.fz i64 0 false,.rt 135 term 67 false true true]),(5,.mp 11 ex i64),(7,.box false [.fz ex 0 false,.fz i64 0 false]),(13,.val false [.fz (.slice 135 term) 0 true]),(14,vv i64),(15,vv i64),(20,.val false [.fz (.slice 135 term) 0 true]),(21,vv i64),(22,vv i64)]
def st127_6 (g199:G199) (F:Nat) (s:ShVal sh127_6) (k kx:ShVal sh127_6->Option R127):Option R127 :=
  match s with
  | ((t2_0,t2_1,t2_2,_),(t3_0,t3_1,t3_2,_),(t4_0,t4_1,t4_2,_),t5,(t7_0,t7_1,_),(t13,_),(t14,_),(t15,_),(t20,_),(t21,_),(t22,_),_) => (bif decide (t22 < t21) then (bif ib t22 (Int.ofNat (List.length t20)) then (bif (!decide (t2_0 = (0:Int))) then k ((t2_0,(t2_1,(t2_2,()))),((t3_0,(t3_1,(t3_2,()))),((t4_0,(t4_1,(t4_2,()))),((((tset (w8 ((tget (0:Int) 3 t7_0 (tn (2:Int))) + (tget (0:Int) 3 (List.getD t20 (tn t22) (Ty.dflt (.pair (.arr 3 (.int .u8)) (.pair (.int .i64) .unit)))).1 (tn (2:Int))))) 3 (tset (w8 ((tget (0:Int) 3 t7_0 (tn (1:Int))) + (tget (0:Int) 3 (List.getD t20 (tn t22) (Ty.dflt (.pair (.arr 3 (.int .u8)) (.pair (.int .i64) .unit)))).1 (tn (1:Int))))) 3 (tset (w8 ((tget (0:Int) 3 t7_0 (tn (0:Int))) + (tget (0:Int) 3 (List.getD t20 (tn t22) (Ty.dflt (.pair (.arr 3 (.int .u8)) (.pair (.int .i64) .unit)))).1 (tn (0:Int))))) 3 (tup Int (0:Int) 3) 0) 1) 2),(Int.tmod (w6 ((mget (.arr 3 (.int .u8)) (.int .i64) t5 (tset (w8 ((tget (0:Int) 3 t7_0 (tn (2:Int))) + (tget (0:Int) 3 (List.getD t20 (tn t22) (Ty.dflt (.pair (.arr 3 (.int .u8)) (.pair (.int .i64) .unit)))).1 (tn (2:Int))))) 3 (tset (w8 ((tget (0:Int) 3 t7_0 (tn (1:Int))) + (tget (0:Int) 3 (List.getD t20 (tn t22) (Ty.dflt (.pair (.arr 3 (.int .u8)) (.pair (.int .i64) .unit)))).1 (tn (1:Int))))) 3 (tset (w8 ((tget (0:Int) 3 t7_0 (tn (0:Int))) + (tget (0:Int) 3 (List.getD t20 (tn t22) (Ty.dflt (.pair (.arr 3 (.int .u8)) (.pair (.int .i64) .unit)))).1 (tn (0:Int))))) 3 (tup Int (0:Int) 3) 0) 1) 2)) + (w6 (t7_1 * (List.getD t20 (tn t22) (Ty.dflt (.pair (.arr 3 (.int .u8)) (.pair (.int .i64) .unit)))).2.1)))) t2_0)) :: t5),((t7_0,(t7_1,())),((t13,()),((t14,()),((t15,()),((t20,()),((t21,()),(((w6 (t22 + (1:Int))),()),()))))))))))) else none) else none) else kx ((t2_0,(t2_1,(t2_2,()))),((t3_0,(t3_1,(t3_2,()))),((t4_0,(t4_1,(t4_2,()))),(t5,((t7_0,(t7_1,())),((t13,()),((t14,()),((t15,()),((t20,()),((t21,()),((t22,()),()))))))))))))
def ru127_6 (g199:G199) (F:Nat) (s:ShVal sh127_6) (kx:ShVal sh127_6->Option R127):Option R127:=iter (fun s k => st127_6 g199 F s k kx) F s
abbrev ls127_6 (g199:G199) (F:Nat):LS R127:=⟨sh127_6,2,ru127_6 g199 F⟩
abbrev sh127_3:Shape:=[(2,.box false [.fz i64 0 false,.fz i64 0 false,.fz (.slice 135 term) 0 true]),(3,.box false [.fz i64 0 false,.fz i64 0 false,.fz (.slice 135 term) 0 true]),(4,.box false [.fz i64 0 false,.fz i64 0 false,.rt 135 term 67 false true true]),(5,.mp 11 ex i64),(13,.val false [.fz (.slice 135 term) 0 true]),(14,vv i64),(15,vv i64)]
def st127_3 (g199:G199) (F:Nat) (s:ShVal sh127_3) (k kx:ShVal sh127_3->Option R127):Option R127 :=
  match s with
  | ((t2_0,t2_1,t2_2,_),(t3_0,t3_1,t3_2,_),(t4_0,t4_1,t4_2,_),t5,(t13,_),(t14,_),(t15,_),_) => (bif decide (t15 < t14) then (bif ib t15 (Int.ofNat (List.length t13)) then (bif decide ((List.length t3_2) ≤ 9223372036854775807) then (ru127_6 g199 F ((t2_0,(t2_1,(t2_2,()))),((t3_0,(t3_1,(t3_2,()))),((t4_0,(t4_1,(t4_2,()))),(t5,(((List.getD t13 (tn t15) (Ty.dflt (.pair (.arr 3 (.int .u8)) (.pair (.int .i64) .unit)))).1,((List.getD t13 (tn t15) (Ty.dflt (.pair (.arr 3 (.int .u8)) (.pair (.int .i64) .unit)))).2.1,())),((t13,()),((t14,()),((t15,()),((t3_2,()),(((Int.ofNat (List.length t3_2)),()),(((0:Int),()),()))))))))))) (fun s' => match s' with | ((t2_0,t2_1,t2_2,_),(t3_0,t3_1,t3_2,_),(t4_0,t4_1,t4_2,_),t5,(t7_0,t7_1,_),(t13,_),(t14,_),(t15,_),(t20,_),(t21,_),(t22,_),_) => k ((t2_0,(t2_1,(t2_2,()))),((t3_0,(t3_1,(t3_2,()))),((t4_0,(t4_1,(t4_2,()))),(t5,((t13,()),((t14,()),(((w6 (t15 + (1:Int))),()),()))))))))) else none) else none) else kx ((t2_0,(t2_1,(t2_2,()))),((t3_0,(t3_1,(t3_2,()))),((t4_0,(t4_1,(t4_2,()))),(t5,((t13,()),((t14,()),((t15,()),()))))))))
def ru127_3 (g199:G199) (F:Nat) (s:ShVal sh127_3) (kx:ShVal sh127_3->Option R127):Option R127:=iter (fun s k => st127_3 g199 F s k kx) F s
abbrev ls127_3 (g199:G199) (F:Nat):LS R127:=⟨sh127_3,0,ru127_3 g199 F⟩
def fn127 (g199:G199) (F:Nat) (x:Args [.v poly,.v poly]):Option R127 :=
  match x with
  | (x0,x1,_) => (bif decide ((List.length x0.2.2.1) ≤ 9223372036854775807) then (ru127_3 g199 F ((x0.1,(x0.2.1,(x0.2.2.1,()))),((x1.1,(x1.2.1,(x1.2.2.1,()))),(((Ty.dflt (.pair (.int .i64) (.pair (.int .i64) (.pair (.slice 135 (.pair (.arr 3 (.int .u8)) (.pair (.int .i64) .unit))) .unit)))).1,((Ty.dflt (.pair (.int .i64) (.pair (.int .i64) (.pair (.slice 135 (.pair (.arr 3 (.int .u8)) (.pair (.int .i64) .unit))) .unit)))).2.1,((Ty.dflt (.pair (.int .i64) (.pair (.int .i64) (.pair (.slice 135 (.pair (.arr 3 (.int .u8)) (.pair (.int .i64) .unit))) .unit)))).2.2.1,()))),([],((x0.2.2.1,()),(((Int.ofNat (List.length x0.2.2.1)),()),(((0:Int),()),()))))))) (fun s' => match s' with | ((t2_0,t2_1,t2_2,_),(t3_0,t3_1,t3_2,_),(t4_0,t4_1,t4_2,_),t5,(t13,_),(t14,_),(t15,_),_) => (match (g199 (t5,(t2_0,(t2_1,())))) with | some r20 => (some ((r20.1.1,(r20.1.2.1,(r20.1.2.2.1,()))),())) | none => none))) else none)
theorem ev127_6 (g199:G199) (F:Nat) (s:ShVal sh127_6) (k kx:ShVal sh127_6->Option R127):evL TT (ct127 g199 ) kp127 [] (loopOf Tryz.f127 6) (envOf sh127_6 s) (fitK sh127_6 k) (fun j e => bif Nat.beq j 2 then fitK sh127_6 kx e else none) kr127 = st127_6 g199 F s k kx:=by
  obtain ⟨⟨t2_0,t2_1,t2_2,_⟩,⟨t3_0,t3_1,t3_2,_⟩,⟨t4_0,t4_1,t4_2,_⟩,t5,⟨t7_0,t7_1,_⟩,⟨t13,_⟩,⟨t14,_⟩,⟨t15,_⟩,⟨t20,_⟩,⟨t21,_⟩,⟨t22,_⟩,_⟩:=s
  kernel_rfl
theorem ok127_6 (g199:G199) (F:Nat) (hK:KOK Tryz.prog (ct127 g199 )):LSOK Tryz.prog ⟨70,false,undef⟩ (ls127_6 g199 F) (loopOf Tryz.f127 6) kr127 :=
  loop_ok (st127_6 g199 F) mixed tt_ok hK (by kernel_rfl) (LTOK_by (l:=[]) (by kernel_rfl) trivial) (ev127_6 g199 F)
theorem ev127_3 (g199:G199) (F:Nat) (s:ShVal sh127_3) (k kx:ShVal sh127_3->Option R127):evL TT (ct127 g199 ) kp127 [(6,ls127_6 g199 F)] (loopOf Tryz.f127 3) (envOf sh127_3 s) (fitK sh127_3 k) (fun j e => bif Nat.beq j 0 then fitK sh127_3 kx e else none) kr127 = st127_3 g199 F s k kx:=by
  obtain ⟨⟨t2_0,t2_1,t2_2,_⟩,⟨t3_0,t3_1,t3_2,_⟩,⟨t4_0,t4_1,t4_2,_⟩,t5,⟨t13,_⟩,⟨t14,_⟩,⟨t15,_⟩,_⟩:=s
  kernel_rfl
theorem ok127_3 (g199:G199) (F:Nat) (hK:KOK Tryz.prog (ct127 g199 )):LSOK Tryz.prog ⟨70,false,undef⟩ (ls127_3 g199 F) (loopOf Tryz.f127 3) kr127 :=
  loop_ok (st127_3 g199 F) mixed tt_ok hK (by kernel_rfl) (LTOK_by (l:=[loopOf Tryz.f127 6]) (by kernel_rfl) ⟨ls_at (by kernel_rfl) (ok127_6 g199 F hK),trivial⟩) (ev127_3 g199 F)
theorem ev127 (g199:G199) (F:Nat) (x:Args [.v poly,.v poly]):fnK TT (ct127 g199 ) kp127 [poly] [(3,ls127_3 g199 F)] (bodyOf Tryz.f127) [.cell 4 34] [.v poly,.v poly] true false x = fn127 g199 F x:=by
  obtain ⟨x0,x1,_⟩:=x
  kernel_rfl
theorem ok127 (g199:G199) (hK:KOK Tryz.prog (ct127 g199 )) (cf:G127) (h:∀ x y,cf x = some y->∃ F,fn127 g199 F x = some y):KOne Tryz.prog 127 ⟨[.v poly,.v poly],[poly],true,false,0,cf⟩ :=
  fn_one rfl (c:=bodyOf Tryz.f127) mixed tt_ok hK Tryz.func127 (by kernel_rfl) (by kernel_rfl) (Nat.le_of_ble_eq_true (by kernel_rfl)) (by decide) fun x y hxy => by
    obtain ⟨F,hF⟩:=h x y hxy
    exact ⟨[(3,ls127_3 g199 F)],LTOK_by (l:=[loopOf Tryz.f127 3]) (by kernel_rfl) ⟨ls_at (by kernel_rfl) (ok127_3 g199 F hK),trivial⟩,(ev127 g199 F x).trans hF⟩
def nT (t:term.den):Int:=t.2.1
abbrev Lg:Type:=List (ex.den × i64.den)
def mgI (m:Lg) (e:ex.den):Int:=mget ex i64 m e
theorem mgI_cons {x:ex.den} {y:Int} {m:Lg} {e:ex.den}:mgI ((x,y) :: m) e = if x = e then y else mgI m e:=by
  unfold mgI
  by_cases h:x = e
  · subst h; rw [if_pos rfl]; exact mget_hit keyT_ex
  · rw [if_neg h]; exact mget_miss keyT_ex h
theorem lkeys_cons {x:ex.den} {y:Int} {m:Lg}:(∀ q ∈ lkeys ((x,y) :: m),q = x ∨ q ∈ lkeys m) ∧ (lkeys ((x,y) :: m)).length ≤ (lkeys m).length + 1:=by
  refine ⟨fun q hq => ?_,?_⟩
  · obtain ⟨z,hz,rfl⟩:=lkeys_mem.1 hq
    rcases List.mem_cons.1 hz with rfl | hz
    · exact .inl rfl
    · exact .inr (lkeys_mem.2 ⟨z,hz,rfl⟩)
  · simp only [lkeys]
    cases (lkeys m).any (fun k => ex.eqd x k) <;> simp
def lsum {α : Type} (f : α->Int):List α->Int
  | [] => 0
  | x :: r => f x + lsum f r
theorem lsum_perm {α : Type} {f : α->Int} {a b:List α} (h:a.Perm b):lsum f a = lsum f b:=by
  induction h with
  | nil => rfl
  | cons x _ ih => simp only [lsum,ih]
  | swap x y l => simp only [lsum]; omega
  | trans _ _ ih1 ih2 => exact ih1.trans ih2
theorem lsum_congr {α : Type} {f g : α->Int}:∀ {l:List α},(∀ x ∈ l,f x = g x)->lsum f l = lsum g l
  | [],_ => rfl
  | x :: r,h => by simp only [lsum]; rw [h x (.head _),lsum_congr fun y hy => h y (.tail _ hy)]
section
variable {p:Int} {m:Nat}
theorem rest_el (hp : 0 < p):∀ {out:List (List Int)} {r:List Int},(∀ o ∈ out,Can p m o)->(out.Pairwise fun a b => el a (ld b) = 0 ∧ el b (ld a) = 0)->Can p m r->∀ i,el (rest p out r) i = (el r i - lsum (fun o => el r (ld o) * el o i) out) % p
  | [],r,_,_,hr,i => by simp only [rest,lsum,Int.sub_zero]; exact (hr.mod i).symm
  | o :: os,r,hc,hz,hr,i => by
    have ho:=hc o (.head _)
    have hz':=List.pairwise_cons.1 hz
    simp only [rest,lsum]
    rw [rest_el hp (fun x hx => hc x (.tail _ hx)) hz'.2 (Can.subm hp hr.len ho.len) i]
    have e:lsum (fun x => el (subm p (el r (ld o)) r o) (ld x) * el x i) os = lsum (fun x => el r (ld x) * el x i) os:=by
      refine lsum_congr fun x hx => ?_
      rw [el_subm (by rw [hr.len,ho.len]),(hz'.1 x hx).1,Int.mul_zero,Int.sub_zero,hr.mod]
    rw [e,el_subm (by rw [hr.len,ho.len]),Int.emod_sub_emod]
    congr 1; omega
theorem RR.apart {out:List (List Int)} (rr:RR p m out):out.Pairwise fun a b => el a (ld b) = 0 ∧ el b (ld a) = 0 :=
  rr.ord.imp fun h => ⟨h.2,ld_zero _ _ h.1⟩
theorem apart_perm {a b:List (List Int)} (h:a.Perm b) (rr:RR p m b):a.Pairwise fun a b => el a (ld b) = 0 ∧ el b (ld a) = 0 :=
  (h.pairwise_iff (R:=fun a b:List Int => el a (ld b) = 0 ∧ el b (ld a) = 0) (fun h => ⟨h.2,h.1⟩)).2 rr.apart
theorem rest_perm (hp : 0 < p) {a b:List (List Int)} {r:List Int} (h:a.Perm b) (rr:RR p m b) (hr:Can p m r):rest p a r = rest p b r:=by
  have ca:∀ o ∈ a,Can p m o:=fun o ho => rr.can o (h.mem_iff.1 ho)
  refine row_ext (by rw [(rest_can hp ca hr).len,(rest_can hp rr.can hr).len]) fun i => ?_
  rw [rest_el hp ca (apart_perm h rr) hr,rest_el hp rr.can rr.apart hr,lsum_perm h]
theorem ins_perm {own:List Int} {at_:Nat}:∀ {b:List (List Int)},(ins p own at_ b).Perm (b.map (red p own at_) ++ [own])
  | [] => .refl _
  | o :: os => by
    simp only [ins]
    split
    · exact (List.perm_append_comm (l₁:=[own]) (l₂:=(o :: os).map (red p own at_)))
    · simp only [List.map_cons,List.cons_append]
      exact (ins_perm (b:=os)).cons _
def takeL (p:Int) (out:List (List Int)) (r:List Int):List (List Int) :=
  if ld (rest p out r) = (rest p out r).length then out else out.map (red p (scl p (inv p (el (rest p out r) (ld (rest p out r)))) (rest p out r)) (ld (rest p out r))) ++ [scl p (inv p (el (rest p out r) (ld (rest p out r)))) (rest p out r)]
theorem take_perm (hp : 0 < p) {a b:List (List Int)} {r:List Int} (h:a.Perm b) (rr:RR p m b) (hr:Can p m r):(takeL p a r).Perm (stepR p b r):=by
  unfold takeL stepR
  rw [rest_perm hp h rr hr]
  split
  · exact h
  · exact ((h.map _).append_right _).trans ins_perm.symm
theorem takeL_len {out:List (List Int)} {r:List Int}:(takeL p out r).length ≤ out.length + 1:=by
  unfold takeL; split
  · omega
  · simp
end
theorem lsum_zero {α : Type} {f : α->Int}:∀ {l:List α},(∀ x ∈ l,f x = 0)->lsum f l = 0
  | [],_ => rfl
  | x :: r,h => by simp only [lsum]; rw [h x (.head _),lsum_zero fun y hy => h y (.tail _ hy)]; rfl
section
variable {p:Int} {m:Nat}
theorem RR.inj {out:List (List Int)} (rr:RR p m out):out.Pairwise fun a b => ld a < ld b:=rr.ord.imp fun h => h.1
theorem RR.off {out:List (List Int)} (rr:RR p m out) {a b:List Int} (ha:a ∈ out) (hb:b ∈ out) (h:a ≠ b):ld a ≠ ld b ∧ el a (ld b) = 0:=by
  have hh:∀ {l:List (List Int)},(l.Pairwise fun a b => ld a < ld b ∧ el a (ld b) = 0)->a ∈ l->b ∈ l->ld a ≠ ld b ∧ el a (ld b) = 0:=by
    intro l
    induction l with
    | nil => intro _ h; cases h
    | cons x l ih =>
      intro hp ha hb
      have hp':=List.pairwise_cons.1 hp
      rcases List.mem_cons.1 ha with e | ha' <;> rcases List.mem_cons.1 hb with e' | hb'
      · exact absurd (e.trans e'.symm) h
      · subst e; exact ⟨Nat.ne_of_lt (hp'.1 b hb').1,(hp'.1 b hb').2⟩
      · subst e'; exact ⟨Nat.ne_of_gt (hp'.1 a ha').1,ld_zero a _ (hp'.1 a ha').1⟩
      · exact ih hp'.2 ha' hb'
  exact hh rr.ord ha hb
end
abbrev x0 (e:ex.den):Int:=e.1
abbrev x1 (e:ex.den):Int:=e.2.1
abbrev x2 (e:ex.den):Int:=e.2.2.1
def addX (a b:ex.den):ex.den:=(x0 a + x0 b,x1 a + x1 b,x2 a + x2 b,())
theorem degX_add {a b:ex.den}:degX (addX a b) = degX a + degX b:=by
  show (x0 a + x0 b) + (x1 a + x1 b) + (x2 a + x2 b) = (x0 a + x1 a + x2 a) + (x0 b + x1 b + x2 b)
  omega
theorem okX_rng {a:ex.den} (h:okX a):(0 ≤ x0 a ∧ x0 a ≤ 255) ∧ (0 ≤ x1 a ∧ x1 a ≤ 255) ∧ (0 ≤ x2 a ∧ x2 a ≤ 255):=h
theorem degX_eq (a:ex.den):degX a = x0 a + x1 a + x2 a:=rfl
theorem okX_add {a b:ex.den} (ha:okX a) (hb:okX b) (h1:degX a ≤ 100) (h2:degX b ≤ 100):okX (addX a b):=by
  have ha:=okX_rng ha
  have hb:=okX_rng hb
  rw [degX_eq] at h1 h2
  show (0 ≤ x0 a + x0 b ∧ x0 a + x0 b ≤ 255) ∧ (0 ≤ x1 a + x1 b ∧ x1 a + x1 b ≤ 255) ∧ (0 ≤ x2 a + x2 b ∧ x2 a + x2 b ≤ 255)
  omega
theorem w8_i {x:Int} (h0 : 0 ≤ x) (h1:x ≤ 255):w8 x = x:=by
  simp only [w8,IntKind.wrap,IntKind.bits,IntKind.signed]
  simp only [Bool.false_and,Bool.false_eq_true,if_false]
  omega
def DegLe (d:Int) (ts:List term.den):Prop:=∀ t ∈ ts,degX t.1 ≤ d
theorem DegLe.mono {d e:Int} {ts:List term.den} (h:DegLe d ts) (hd:d ≤ e):DegLe e ts:=fun t ht => Int.le_trans (h t ht) hd
def degI (ts:List term.den):Int:=match ts.getLast? with | none => -1 | some t => degX t.1
theorem degI_le {d:Int} {ts:List term.den} (h:DegLe d ts) (hd : -1 ≤ d):degI ts ≤ d:=by
  unfold degI
  cases hl:ts.getLast? with
  | none => exact hd
  | some s => exact h s (List.mem_of_getLast? hl)
theorem degX_nn {a:ex.den} (h:okX a) : 0 ≤ degX a:=by
  have h:=okX_rng h
  rw [degX_eq]; omega
theorem degI_rng {p d:Int} {ts:List term.den} (h:CanT p ts) (hd:DegLe d ts) (h0 : -1 ≤ d) : -1 ≤ degI ts ∧ degI ts ≤ d:=by
  refine ⟨?_,degI_le hd h0⟩
  unfold degI
  cases hl:ts.getLast? with
  | none => exact Int.le_refl _
  | some s => have:=degX_nn (h.ok s (List.mem_of_getLast? hl)).1; simp only; omega
theorem can_len {p d:Int} {ts:List term.den} (h:CanT p ts) (hd:DegLe d ts) (h1:d ≤ 40):ts.length ≤ 68921:=by
  have nd:(ts.map fun t => ((x0 t.1).toNat * 1681 + (x1 t.1).toNat * 41 + (x2 t.1).toNat)).Nodup:=by
    refine List.pairwise_map.2 (List.Pairwise.imp_of_mem ?_ h.srt)
    intro a b ha hb hab e
    have oa:=okX_rng (h.ok a ha).1
    have ob:=okX_rng (h.ok b hb).1
    have da:=hd a ha
    have db:=hd b hb
    rw [degX_eq] at da db
    have e0:x0 a.1 = x0 b.1:=by omega
    have e1:x1 a.1 = x1 b.1:=by omega
    have e2:x2 a.1 = x2 b.1:=by omega
    have hab:(x0 a.1 + x1 a.1 + x2 a.1) * 65536 + (255 - x0 a.1) * 256 + (255 - x1 a.1) < (x0 b.1 + x1 b.1 + x2 b.1) * 65536 + (255 - x0 b.1) * 256 + (255 - x1 b.1):=hab
    omega
  have:=len_sub (R:=List.range 68921) nd fun z hz => by
    obtain ⟨t,ht,rfl⟩:=List.mem_map.1 hz
    have ot:=okX_rng (h.ok t ht).1
    have dt:=hd t ht
    rw [degX_eq] at dt
    exact List.mem_range.2 (by omega)
  simpa using this
theorem coT_mem_ne {p:Int}:∀ {ts:List term.den} {e:ex.den},CanT p ts->coT ts e ≠ 0->∃ t ∈ ts,t.1 = e
  | [],e,_,h => absurd rfl h
  | t :: r,e,hc,h => by
    by_cases q:t.1 = e
    · exact ⟨t,.head _,q⟩
    · simp only [coT,if_neg q] at h
      obtain ⟨s,hs,e⟩:=coT_mem_ne hc.tail h
      exact ⟨s,.tail _ hs,e⟩
theorem mem_coT {p:Int} {ts:List term.den} {t:term.den} (h:CanT p ts) (ht:t ∈ ts):coT ts t.1 ≠ 0:=by
  rw [coT_mem h ht]
  have:=(h.ok t ht).2.1
  intro q
  have q:(show Int from t.2.1) = 0:=q
  have this:(0:Int) < (show Int from t.2.1):=this
  omega
theorem degLe_of {p d:Int} {ts:List term.den} (h:CanT p ts) (hz:∀ e,d < degX e->coT ts e = 0):DegLe d ts:=fun t ht => by
  rcases Int.lt_or_le d (degX t.1) with q | q
  · exact absurd (hz _ q) (mem_coT h ht)
  · exact q
theorem coT_deg {p d:Int} {ts:List term.den} (h:CanT p ts) (hd:DegLe d ts) {e:ex.den} (he:d < degX e):coT ts e = 0:=by
  by_cases q:coT ts e = 0
  · exact q
  · obtain ⟨t,ht,rfl⟩:=coT_mem_ne h q
    have:=hd t ht; omega
def mulN (a b:List term.den) (e:ex.den):Int:=lsum (fun t => lsum (fun s => if addX t.1 s.1 = e then nT t * nT s else 0) b) a
def rowP (p:Int) (t:term.den) (out b:List term.den):List term.den:=b.foldl (fun out s => putP p out (addX t.1 s.1) (nT t * nT s)) out
def timesP (p:Int) (a b:List term.den):List term.den:=a.foldl (fun out t => rowP p t out b) []
theorem rowP_can {p:Int} {t:term.den} (hp : 0 < p) (ht:okX t.1 ∧ degX t.1 ≤ 100):∀ {b out:List term.den},CanT p out->(∀ s ∈ b,okX s.1 ∧ degX s.1 ≤ 100) →
    CanT p (rowP p t out b) ∧ ∀ e,coT (rowP p t out b) e = (coT out e + lsum (fun s => if addX t.1 s.1 = e then nT t * nT s else 0) b) % p
  | [],out,ho,_ => ⟨ho,fun e => by
      have:=coT_rng (e:=e) hp ho
      show coT out e = (coT out e + 0) % p
      rw [Int.add_zero,Int.emod_eq_of_lt this.1 this.2]⟩
  | s :: b,out,ho,hb => by
    have hs:=hb s (.head _)
    obtain ⟨h1,h2⟩:=putP_can (x:=nT t * nT s) hp ho (okX_add ht.1 hs.1 ht.2 hs.2)
    obtain ⟨i1,i2⟩:=rowP_can hp ht (b:=b) h1 fun x hx => hb x (.tail _ hx)
    refine ⟨i1,fun e => ?_⟩
    show coT (rowP p t (putP p out (addX t.1 s.1) (nT t * nT s)) b) e = _
    rw [i2 e,h2 e]
    simp only [lsum]
    by_cases q:e = addX t.1 s.1
    · subst q; rw [if_pos rfl,if_pos rfl,Int.emod_add_emod]; congr 1; omega
    · rw [if_neg q,if_neg fun w => q w.symm]; congr 1; omega
theorem timesP_go {p:Int} (hp : 0 < p) {b:List term.den} (hb:∀ s ∈ b,okX s.1 ∧ degX s.1 ≤ 100):∀ {a out:List term.den},CanT p out->(∀ t ∈ a,okX t.1 ∧ degX t.1 ≤ 100) →
    CanT p (a.foldl (fun out t => rowP p t out b) out) ∧ ∀ e,coT (a.foldl (fun out t => rowP p t out b) out) e = (coT out e + mulN a b e) % p
  | [],out,ho,_ => ⟨ho,fun e => by
      have:=coT_rng (e:=e) hp ho
      show coT out e = (coT out e + 0) % p
      rw [Int.add_zero,Int.emod_eq_of_lt this.1 this.2]⟩
  | t :: a,out,ho,ha => by
    obtain ⟨h1,h2⟩:=rowP_can hp (ha t (.head _)) ho hb
    obtain ⟨i1,i2⟩:=timesP_go hp hb (a:=a) h1 fun x hx => ha x (.tail _ hx)
    refine ⟨i1,fun e => ?_⟩
    show coT (a.foldl (fun out t => rowP p t out b) (rowP p t out b)) e = _
    rw [i2 e,h2 e,Int.emod_add_emod]
    simp only [mulN,lsum]
    congr 1; omega
theorem can_nil {p:Int}:CanT p []:=⟨.nil,by simp⟩
theorem timesP_can {p:Int} (hp : 0 < p) {a b:List term.den} (ha:∀ t ∈ a,okX t.1 ∧ degX t.1 ≤ 100) (hb:∀ s ∈ b,okX s.1 ∧ degX s.1 ≤ 100):CanT p (timesP p a b) ∧ ∀ e,coT (timesP p a b) e = mulN a b e % p:=by
  obtain ⟨h1,h2⟩:=timesP_go hp hb (a:=a) can_nil ha
  exact ⟨h1,fun e => by
    have:=h2 e
    rw [show coT [] e = 0 from rfl,Int.zero_add] at this
    exact this⟩
theorem small {p d:Int} {a:List term.den} (ha:CanT p a) (hd:DegLe d a) (h:d ≤ 100):∀ t ∈ a,okX t.1 ∧ degX t.1 ≤ 100:=fun t ht => ⟨(ha.ok t ht).1,by have:=hd t ht; omega⟩
theorem mulN_deg {d e:Int} {a b:List term.den} (ha:DegLe d a) (hb:DegLe e b) {x:ex.den} (hx:d + e < degX x):mulN a b x = 0 :=
  lsum_zero fun t ht => lsum_zero fun s hs => if_neg fun q => by
    have h1:=ha t ht
    have h2:=hb s hs
    rw [← q,degX_add] at hx; omega
theorem timesP_deg {p d e:Int} (hp : 0 < p) {a b:List term.den} (ha:CanT p a) (hb:CanT p b) (h1:DegLe d a) (h2:DegLe e b) (l1:d ≤ 100) (l2:e ≤ 100):DegLe (d + e) (timesP p a b):=by
  obtain ⟨c1,c2⟩:=timesP_can hp (small ha h1 l1) (small hb h2 l2)
  exact degLe_of c1 fun x hx => by rw [c2,mulN_deg h1 h2 hx]; simp
def logR (p:Int) (t:term.den):List term.den->Lg->Lg
  | [],m => m
  | s :: r,m => logR p t r ((addX t.1 s.1,(mgI m (addX t.1 s.1) + nT t * nT s) % p) :: m)
def logM (p:Int) (b:List term.den):List term.den->Lg->Lg
  | [],m => m
  | t :: a,m => logM p b a (logR p t b m)
theorem logR_get {p:Int} {t:term.den}:∀ {b:List term.den} {m:Lg} (e:ex.den),mgI (logR p t b m) e % p = (mgI m e + lsum (fun s => if addX t.1 s.1 = e then nT t * nT s else 0) b) % p
  | [],m,e => by simp [logR,lsum]
  | s :: b,m,e => by
    simp only [logR,lsum]
    rw [logR_get (b:=b) e,mgI_cons]
    by_cases q:addX t.1 s.1 = e
    · subst q; rw [if_pos rfl,if_pos rfl,Int.emod_add_emod]; congr 1; omega
    · rw [if_neg q,if_neg q]; congr 1; omega
theorem logM_get {p:Int} {b:List term.den}:∀ {a:List term.den} {m:Lg} (e:ex.den),mgI (logM p b a m) e % p = (mgI m e + mulN a b e) % p
  | [],m,e => by simp [logM,mulN,lsum]
  | t :: a,m,e => by
    simp only [logM]
    rw [logM_get (a:=a) e,Int.add_emod,logR_get e,← Int.add_emod]
    simp only [mulN,lsum]
    congr 1; omega
theorem logR_rng {p:Int} (hp : 0 < p) {t:term.den}:∀ {b:List term.den} {m:Lg},(∀ e,0 ≤ mgI m e ∧ mgI m e < p)->∀ e,0 ≤ mgI (logR p t b m) e ∧ mgI (logR p t b m) e < p
  | [],m,h,e => h e
  | s :: b,m,h,e => logR_rng hp (b:=b) (fun e => by
      rw [mgI_cons]; split
      · exact ⟨Int.emod_nonneg _ (by omega),Int.emod_lt_of_pos _ hp⟩
      · exact h e) e
theorem logR_keys {p:Int} {t:term.den}:∀ {b:List term.den} {m:Lg},(∀ q ∈ lkeys (logR p t b m),q ∈ lkeys m ∨ ∃ s ∈ b,addX t.1 s.1 = q) ∧ (lkeys (logR p t b m)).length ≤ (lkeys m).length + b.length
  | [],m => ⟨fun q h => .inl h,Nat.le_refl _⟩
  | s :: r,m => by
    obtain ⟨a,b⟩:=logR_keys (p:=p) (t:=t) (b:=r) (m:=(addX t.1 s.1,(mgI m (addX t.1 s.1) + nT t * nT s) % p) :: m)
    obtain ⟨c,d⟩:=lkeys_cons (x:=addX t.1 s.1) (y:=(mgI m (addX t.1 s.1) + nT t * nT s) % p) (m:=m)
    refine ⟨fun q h => ?_,?_⟩
    · rcases a q h with h | ⟨s,hs,e⟩
      · rcases c q h with h | h
        · exact .inr ⟨s,.head _,h.symm⟩
        · exact .inl h
      · exact .inr ⟨s,.tail _ hs,e⟩
    · refine Nat.le_trans b ?_
      simp only [List.length_cons]; omega
theorem logM_keys {p:Int} {b:List term.den}:∀ {a:List term.den} {m:Lg},∀ q ∈ lkeys (logM p b a m),q ∈ lkeys m ∨ ∃ t ∈ a,∃ s ∈ b,addX t.1 s.1 = q
  | [],m,q,h => .inl h
  | t :: a,m,q,h => by
    rcases logM_keys (a:=a) q h with h | ⟨t',ht,s,hs,e⟩
    · rcases logR_keys.1 q h with h | ⟨s,hs,e⟩
      · exact .inl h
      · exact .inr ⟨t,.head _,s,hs,e⟩
    · exact .inr ⟨t',.tail _ ht,s,hs,e⟩
theorem keys_len {d:Int} {m:Lg} (h:∀ q ∈ lkeys m,okX q ∧ degX q ≤ d) (hd:d ≤ 99):(lkeys m).length ≤ 1000000:=by
  have nd:((lkeys m).map fun e => ((x0 e).toNat * 10000 + (x1 e).toNat * 100 + (x2 e).toNat)).Nodup:=by
    refine List.pairwise_map.2 (List.Pairwise.imp_of_mem ?_ (lkeys_nodup (m:=m)))
    intro a b ha hb hab e
    have oa:=okX_rng (h a ha).1
    have ob:=okX_rng (h b hb).1
    have da:=(h a ha).2
    have db:=(h b hb).2
    rw [degX_eq] at da db
    have e0:x0 a = x0 b:=by omega
    have e1:x1 a = x1 b:=by omega
    have e2:x2 a = x2 b:=by omega
    exact hab (Prod.ext e0 (Prod.ext e1 (Prod.ext e2 rfl)))
  have:=len_sub (R:=List.range 1000000) nd fun z hz => by
    obtain ⟨t,ht,rfl⟩:=List.mem_map.1 hz
    have ot:=okX_rng (h t ht).1
    have dt:=(h t ht).2
    rw [degX_eq] at dt
    exact List.mem_range.2 (by omega)
  simpa using this
theorem mul_same {p v d e:Int} {a b:List term.den} (h1 : 0 < p) (h2:p ≤ 1000000) (ha:CanT p a) (hb:CanT p b) (d1:DegLe d a) (d2:DegLe e b) (l1:d ≤ 49) (l2:e ≤ 49) :
    sumP p v (logM p b a []) = (p,v,timesP p a b,()) ∧ (lkeys (logM p b a [])).length ≤ 1000000:=by
  have ok:∀ q ∈ lkeys (logM p b a []),okX q ∧ degX q ≤ d + e:=fun q hq => by
    rcases logM_keys q hq with h | ⟨t,ht,s,hs,rfl⟩
    · cases h
    · have:=d1 t ht
      have:=d2 s hs
      exact ⟨okX_add (ha.ok t ht).1 (hb.ok s hs).1 (by omega) (by omega),by rw [degX_add]; omega⟩
  obtain ⟨s1,s2⟩:=sumP_can (v:=v) h1 h2 fun q hq => (ok q hq).1
  obtain ⟨q1,q2⟩:=timesP_can h1 (small ha d1 (by omega)) (small hb d2 (by omega))
  refine ⟨?_,keys_len ok (by omega)⟩
  have:(sumP p v (logM p b a [])).2.2.1 = timesP p a b:=can_unique s1 q1 fun e => by
    rw [s2 e,q2 e]
    show mgI _ e % p = _
    rw [logM_get,show mgI [] e = 0 from rfl,Int.zero_add]
  show (p,v,(sumP p v (logM p b a [])).2.2.1,()) = _
  rw [this]
theorem getD_last {ts:List term.den} {d:term.den} (h:ts ≠ []):ts.getLast? = some (ts.getD (ts.length - 1) d):=by
  have hl : 0 < ts.length:=List.length_pos_iff.2 h
  rw [List.getLast?_eq_getElem?,List.getD_eq_getElem?_getD,List.getElem?_eq_getElem (by omega)]; rfl
theorem degI_last {ts:List term.den} {d:term.den} (h:ts ≠ []):degI ts = degX (ts.getD (ts.length - 1) d).1:=by
  unfold degI; rw [getD_last (d:=d) h]
def okTs (ts:List term.den):Prop:=ts.length ≤ 1000000 ∧ ∀ t ∈ ts,okX t.1
theorem okTs.last {ts:List term.den} {d:term.den} (h:okTs ts) (hn:ts ≠ []):okX (ts.getD (ts.length - 1) d).1:=by
  have hl : 0 < ts.length:=List.length_pos_iff.2 hn
  rw [List.getD_eq_getElem?_getD,List.getElem?_eq_getElem (by omega)]
  exact h.2 _ (List.getElem_mem _)
noncomputable def cf115:G84:=by
  classical exact fun x => if okTs x.1.2.2.1 then some (degI x.1.2.2.1,()) else none
theorem k115:KOne Tryz.prog 84 ⟨[.v poly],[i64],false,false,0,cf115⟩:=ok84 _ (.cons k158 .nil) cf115 fun x y h => by
  obtain ⟨⟨p,v,ts,_⟩,_⟩:=x
  simp only [cf115] at h
  split at h
  · rename_i hc
    injection h with h; subst h
    replace hc:okTs ts:=hc
    have h1:=hc.1
    refine ⟨0,?_⟩
    show (bif decide (ts.length ≤ _) then _ else _) = _
    by_cases q:ts = []
    · subst q; rfl
    · have hl : 0 < ts.length:=List.length_pos_iff.2 q
      have wi:w6 ((ts.length:Int) - 1) = ((ts.length - 1:Nat):Int):=by rw [w6_i (by omega) (by omega)]; omega
      have g:cf158 ((ts.getD (ts.length - 1) (Ty.dflt term)).1,()) = some (degX (ts.getD (ts.length - 1) (Ty.dflt term)).1,()):=if_pos (hc.last q)
      simp (disch:=omega) only [dln_t,cond_true,ofn,deq_f,cond_false,wi,ib_t,tn_cast]
      show (match cf158 ((ts.getD (ts.length - 1) (Ty.dflt term)).1,()) with | some r5 => some (r5.1,()) | none => none) = some (degI ts,())
      rw [g,degI_last (d:=Ty.dflt term) q]
  · cases h
theorem g115_ok {p v:Int} {ts:List term.den} (h:okTs ts):cf115 ((p,v,ts,()),()) = some (degI ts,()):=if_pos h
theorem nT_rng {p:Int} {ts:List term.den} (h:CanT p ts) {t:term.den} (ht:t ∈ ts) : 0 < nT t ∧ nT t < p:=(h.ok t ht).2
theorem mulb {p x y:Int} (hp:p ≤ 1000000) (hx : 0 < x ∧ x < p) (hy : 0 < y ∧ y < p) : 0 ≤ x * y ∧ x * y ≤ 1000000000000:=by
  have h1 : 0 ≤ x * y:=Int.mul_nonneg (by omega) (by omega)
  have h2:x * y ≤ 1000000 * y:=Int.mul_le_mul_of_nonneg_right (by omega) (by omega)
  omega
noncomputable def S99 (F0:Nat) (kx:ShVal sh121_10->Option R121):ShVal sh121_10->(ShVal sh121_10->Option R121)->Option R121:=fun s k => st121_10 cf97 cf115 cf98 F0 s k kx
theorem addX_w {a b:ex.den} (ha:okX a) (hb:okX b) (h1:degX a ≤ 100) (h2:degX b ≤ 100):((w8 (x0 a + x0 b),w8 (x1 a + x1 b),w8 (x2 a + x2 b),()):ex.den) = addX a b:=by
  have ha:=okX_rng ha
  have hb:=okX_rng hb
  rw [degX_eq] at h1 h2
  rw [w8_i (by omega) (by omega),w8_i (by omega) (by omega),w8_i (by omega) (by omega)]; rfl
theorem in99 {p v p' v':Int} {z:poly.den} {t:term.den} {prea ra:List term.den} {kx:ShVal sh121_10->Option R121} {F0:Nat} (hp : 0 < p ∧ p ≤ 1000000) (ht:okX t.1 ∧ degX t.1 ≤ 100) (hn : 0 < nT t ∧ nT t < p) (hal:(prea ++ t :: ra).length ≤ 1000000) :
    ∀ (r pre out:List term.den) (F:Nat),r.length < F->(pre ++ r).length ≤ 1000000->out.length + r.length ≤ 1000000->CanT p out->(∀ s ∈ r,okX s.1 ∧ degX s.1 ≤ 100)->(∀ s ∈ r,0 < nT s ∧ nT s < p) →
    iter (S99 F0 kx) F ((p',v',prea ++ t :: ra,()),((p,v,pre ++ r,()),((z.1,z.2.1,z.2.2.1,()),((p,v,out,()),(((prea.length:Int),()),(((pre.length:Int),()),())))))) =
      kx ((p',v',prea ++ t :: ra,()),((p,v,pre ++ r,()),((z.1,z.2.1,z.2.2.1,()),((p,v,rowP p t out r,()),(((prea.length:Int),()),((((pre ++ r).length:Int),()),()))))))
  | [],pre,out,F,hF,hl,ho,hc,hr,hn' => by
    obtain ⟨F,rfl⟩:∃ f,F = f + 1:=⟨F - 1,by simp at hF; omega⟩
    rw [List.append_nil] at hl ⊢
    simp only [iter,S99,st121_10]
    simp (disch:=omega) only [dln_t,cond_true,ofn,dlt_f,cond_false]
    rfl
  | s :: r,pre,out,F,hF,hl,ho,hc,hr,hn' => by
    obtain ⟨F,rfl⟩:∃ f,F = f + 1:=⟨F - 1,by simp at hF; omega⟩
    have hpl:pre.length < (pre ++ s :: r).length:=by simp
    have hpa:prea.length < (prea ++ t :: ra).length:=by simp
    have hs:=hr s (.head _)
    have hb:=mulb hp.2 hn (hn' s (.head _))
    have ha:=okX_add ht.1 hs.1 ht.2 hs.2
    have wk:w6 (nT t * nT s) = nT t * nT s:=w6_i (by omega) (by omega)
    have ew:=addX_w ht.1 hs.1 ht.2 hs.2
    have g:=g98_ok (v:=v) (ts:=out) (e:=addX t.1 s.1) (x:=nT t * nT s) ⟨hp.1,hp.2,hc,ha,by omega,by omega,by simp at ho; omega⟩
    have wi:w6 ((pre.length:Int) + 1) = ((pre ++ [s]).length:Int):=by rw [w6_i (by omega) (by omega)]; simp
    have pl:=putP_len (p:=p) (ts:=out) (e:=addX t.1 s.1) (x:=nT t * nT s)
    have ih:=in99 (v:=v) (v':=v') (p':=p') (z:=z) (kx:=kx) (F0:=F0) hp ht hn hal r (pre ++ [s]) (putP p out (addX t.1 s.1) (nT t * nT s)) F (by simp at hF; omega) (by simpa using hl) (by simp at ho; omega) (putP_can hp.1 hc ha).1 (fun x hx => hr x (.tail _ hx)) fun x hx => hn' x (.tail _ hx)
    rw [show (pre ++ [s]) ++ r = pre ++ s :: r by simp,← wi] at ih
    show S99 F0 kx _ (iter (S99 F0 kx) F) = _
    generalize iter (S99 F0 kx) F = K at ih ⊢
    simp only [S99,st121_10]
    simp (disch:=omega) only [dln_t,cond_true,ofn,dlt_t,ib_t,tn_cast,getD_pre]
    have g':cf98 ((p,v,out,()),((w8 (x0 t.1 + x0 s.1),w8 (x1 t.1 + x1 s.1),w8 (x2 t.1 + x2 s.1),()):ex.den),w6 (nT t * nT s),()) = some ((p,v,putP p out (addX t.1 s.1) (nT t * nT s),()),()):=by rw [ew,wk]; exact g
    show (match cf98 ((p,v,out,()),((w8 (x0 t.1 + x0 s.1),w8 (x1 t.1 + x1 s.1),w8 (x2 t.1 + x2 s.1),()):ex.den),w6 (nT t * nT s),()) with | some r45 => _ | none => none) = _
    rw [g']
    exact ih
noncomputable def S99a (F0:Nat):ShVal sh121_7->(ShVal sh121_7->Option R121)->Option R121:=fun s k => st121_7 cf97 cf115 cf98 F0 s k (fun s' => match s' with | ((t2_0,t2_1,t2_2,_),(t3_0,t3_1,t3_2,_),(t4_0,t4_1,t4_2,_),(t6_0,t6_1,t6_2,_),(t7,_),_) => (some ((t6_0,(t6_1,(t6_2,()))),(true,()))))
theorem run99 {p v p' v':Int} {z:poly.den} {b:List term.den} {F0:Nat} (hp : 0 < p ∧ p ≤ 1000000) (hF0:b.length < F0) (hbl:b.length ≤ 100000) (hb:CanT p b) (hbs:∀ s ∈ b,okX s.1 ∧ degX s.1 ≤ 100) :
    ∀ (r pre out:List term.den) (F:Nat),r.length < F->(pre ++ r).length ≤ 1000000->DegLe 100 out->(out.length + b.length ≤ 1000000 ∨ True)->CanT p out->CanT p r->(∀ s ∈ r,okX s.1 ∧ degX s.1 ≤ 12)->(∀ s ∈ b,degX s.1 ≤ 12)->DegLe 24 out →
    iter (S99a F0) F ((p',v',pre ++ r,()),((p,v,b,()),((z.1,z.2.1,z.2.2.1,()),((p,v,out,()),(((pre.length:Int),()),()))))) = some ((p,v,r.foldl (fun out t => rowP p t out b) out,()),true,())
  | [],pre,out,F,hF,hl,_,_,hc,hr,hd,hd2,hd3 => by
    obtain ⟨F,rfl⟩:∃ f,F = f + 1:=⟨F - 1,by simp at hF; omega⟩
    rw [List.append_nil] at hl ⊢
    simp only [iter,S99a,st121_7]
    simp (disch:=omega) only [dln_t,cond_true,ofn,dlt_f,cond_false]
    rfl
  | t :: r,pre,out,F,hF,hl,_,_,hc,hr,hd,hd2,hd3 => by
    obtain ⟨F,rfl⟩:∃ f,F = f + 1:=⟨F - 1,by simp at hF; omega⟩
    have hpl:pre.length < (pre ++ t :: r).length:=by simp
    have ht:=hd t (.head _)
    have ht':okX t.1 ∧ degX t.1 ≤ 100:=⟨ht.1,by omega⟩
    have hol:=can_len hc hd3 (by omega)
    obtain ⟨c1,c2⟩:=rowP_can hp.1 ht' (b:=b) hc hbs
    have d1:DegLe 24 (rowP p t out b):=degLe_of c1 fun e he => by
      rw [c2,coT_deg hc hd3 he,lsum_zero fun s hs => if_neg fun q => by
        have:=hd2 s hs
        rw [← q,degX_add] at he; omega]
      simp
    have wi:w6 ((pre.length:Int) + 1) = ((pre ++ [t]).length:Int):=by rw [w6_i (by omega) (by omega)]; simp
    have ih:=run99 (v:=v) (v':=v') (p':=p') (z:=z) (F0:=F0) hp hF0 hbl hb hbs r (pre ++ [t]) (rowP p t out b) F (by simp at hF; omega) (by simpa using hl) (d1.mono (by omega)) (.inr trivial) c1 hr.tail (fun x hx => hd x (.tail _ hx)) hd2 d1
    rw [show (pre ++ [t]) ++ r = pre ++ t :: r by simp,← wi] at ih
    show S99a F0 _ (iter (S99a F0) F) = _
    generalize iter (S99a F0) F = K at ih ⊢
    simp only [S99a,st121_7]
    simp (disch:=omega) only [dln_t,cond_true,ofn,dlt_t]
    have key:=in99 (v:=v) (v':=v') (p':=p') (z:=z) (t:=t) (prea:=pre) (ra:=r) (F0:=F0) (kx:=fun s' => match s' with | ((t2_0,t2_1,t2_2,_),(t3_0,t3_1,t3_2,_),(t4_0,t4_1,t4_2,_),(t6_0,t6_1,t6_2,_),(t7,_),(t8,_),_) => K ((t2_0,(t2_1,(t2_2,()))),((t3_0,(t3_1,(t3_2,()))),((t4_0,(t4_1,(t4_2,()))),((t6_0,(t6_1,(t6_2,()))),(((w6 (t7 + (1:Int))),()),())))))) hp ht' (nT_rng hr (.head _)) hl b [] out F0 hF0 (by simpa using Nat.le_trans hbl (by omega)) (by omega) hc hbs fun s hs => nT_rng hb hs
    exact key.trans ih
noncomputable def okMul (p:Int) (a b:List term.den):Prop:=(0 < p ∧ p ≤ 1000000) ∧ CanT p a ∧ CanT p b ∧ DegLe 12 a ∧ DegLe 12 b
def fits (a b:List term.den):Bool:=decide (a = []) || decide (b = []) || decide (degI a + degI b ≤ 12)
def timesO (p:Int) (a b:List term.den):List term.den:=bif fits a b then timesP p a b else []
noncomputable def cf99:G121:=by
  classical exact fun x => if x.2.1.1 = x.1.1 ∧ x.2.1.2.1 = x.1.2.1 ∧ okMul x.1.1 x.1.2.2.1 x.2.1.2.2.1 then some ((x.1.1,x.1.2.1,timesO x.1.1 x.1.2.2.1 x.2.1.2.2.1,()),fits x.1.2.2.1 x.2.1.2.2.1,()) else none
theorem okTs_of {p d:Int} {a:List term.den} (h:CanT p a) (hd:DegLe d a) (h1:d ≤ 40):okTs a:=⟨Nat.le_trans (can_len h hd h1) (by omega),fun t ht => (h.ok t ht).1⟩
theorem timesP_nil_r {p:Int}:∀ (a out:List term.den),a.foldl (fun out t => rowP p t out []) out = out
  | [],out => rfl
  | t :: a,out => timesP_nil_r a out
theorem k99:KOne Tryz.prog 121 ⟨[.v poly,.v poly],[poly,.bool],true,false,0,cf99⟩:=ok121 _ _ _ (.cons k97 (.cons k115 (.cons k98 .nil))) cf99 fun x y h => by
  obtain ⟨⟨p,v,a,_⟩,⟨q,w,b,_⟩,_⟩:=x
  simp only [cf99] at h
  split at h
  · rename_i hc
    injection h with h; subst h
    obtain ⟨e1,e2,hp,ha,hb,hd,he⟩:=hc
    replace e1:q = p:=e1
    replace e2:w = v:=e2
    subst e1; subst e2
    have la:=can_len ha hd (by omega)
    have lb:=can_len hb he (by omega)
    refine ⟨List.length b + List.length a + 1,?_⟩
    have hda:=degI_rng ha hd (by omega)
    have hdb:=degI_rng hb he (by omega)
    have g1:=g115_ok (p:=q) (v:=w) (okTs_of ha hd (by omega))
    have g2:=g115_ok (p:=q) (v:=w) (okTs_of hb he (by omega))
    show (bif decide (List.length a ≤ _) then _ else _) = _
    rw [dln_t (by omega),cond_true]
    by_cases q1:a = []
    · subst q1
      show _ = some ((q,w,timesO q [] b,()),fits [] b,())
      simp [fits,timesO,timesP]
    have hla : 0 < List.length a:=List.length_pos_iff.2 q1
    show (bif decide ((List.length a:Int) = 0) then _ else (bif decide (List.length b ≤ 9223372036854775807) then (bif decide ((List.length b:Int) = 0) then _ else (match cf115 ((q,w,a,()),()) with | some r10 => (match cf115 ((q,w,b,()),()) with | some r11 => _ | none => none) | none => none)) else none)) = _
    rw [deq_f (by omega),cond_false,dln_t (by omega),cond_true]
    by_cases q2:b = []
    · subst q2
      have e2:fits a [] = true:=by simp [fits]
      have e1:timesO q a [] = []:=by simp only [timesO,e2,cond_true]; exact timesP_nil_r a []
      show _ = some ((q,w,timesO q a [],()),fits a [],())
      rw [e1,e2]; rfl
    have hlb : 0 < List.length b:=List.length_pos_iff.2 q2
    rw [deq_f (by omega),cond_false]
    rw [g1,g2]
    show (bif decide ((12:Int) < w6 (degI a + degI b)) then _ else _) = _
    rw [w6_i (by omega) (by omega)]
    by_cases q3:(12:Int) < degI a + degI b
    · rw [dlt_t q3,cond_true]
      have:fits a b = false:=by simp [fits,q1,q2]; omega
      show _ = some ((q,w,timesO q a b,()),fits a b,())
      simp only [timesO,this]; rfl
    · rw [dlt_f (by omega),cond_false]
      have:fits a b = true:=by simp [fits]; right; omega
      show _ = some ((q,w,timesO q a b,()),fits a b,())
      simp only [timesO,this,cond_true]
      exact run99 (F0:=List.length b + List.length a + 1) (z:=Ty.dflt poly) hp (by omega) (by omega) hb (small hb he (by omega)) a [] [] (List.length b + List.length a + 1) (by omega) (by simp; omega) (by intro t ht; cases ht) (.inr trivial) can_nil ha (fun s hs => ⟨(ha.ok s hs).1,hd s hs⟩) he (by intro t ht; cases ht)
  · cases h
theorem g99_ok {p v:Int} {a b:List term.den} (h:okMul p a b):cf99 ((p,v,a,()),(p,v,b,()),()) = some ((p,v,timesO p a b,()),fits a b,()):=if_pos ⟨rfl,rfl,h⟩
def oneP (p:Int) (e:ex.den) (x:Int):List term.den:=putP p [] e x
noncomputable def cf96:G120:=by
  classical exact fun x => if (0 < x.1 ∧ x.1 ≤ 1000000) ∧ okX x.2.2.1 ∧ -1000000000000 ≤ x.2.2.2.1 ∧ x.2.2.2.1 ≤ 1000000000000 then some ((x.1,x.2.1,oneP x.1 x.2.2.1 x.2.2.2.1,()),()) else none
theorem k96:KOne Tryz.prog 120 ⟨[.v i64,.v i64,.v ex,.v i64],[poly],true,false,0,cf96⟩:=ok120 _ _ (.cons k97 (.cons k98 .nil)) cf96 fun x y h => by
  obtain ⟨p,v,e,n,_⟩:=x
  simp only [cf96] at h
  split at h
  · rename_i hc
    injection h with h; subst h
    obtain ⟨h1,h2,h3,h4⟩:=hc
    refine ⟨0,?_⟩
    have g:=g98_ok (v:=v) (ts:=[]) (e:=e) (x:=n) ⟨h1.1,h1.2,can_nil,h2,h3,h4,by simp⟩
    simp only [fn120,cf97]
    show (match cf98 ((p,v,[],()),e,n,()) with | some r9 => _ | none => none) = _
    rw [g]; rfl
  · cases h
theorem g96_ok {p v n:Int} {e:ex.den} (hp : 0 < p ∧ p ≤ 1000000) (he:okX e) (hn : -1000000000000 ≤ n ∧ n ≤ 1000000000000):cf96 (p,v,e,n,()) = some ((p,v,oneP p e n,()),()):=if_pos ⟨hp,he,hn.1,hn.2⟩
noncomputable def cf148:G175:=by
  classical exact fun x => if (0 < x.1 ∧ x.1 ≤ 1000000) ∧ okX x.2.2.1 then some ((x.1,x.2.1,oneP x.1 x.2.2.1 x.2.2.2.1,()),()) else none
theorem one_same {p v n:Int} {e:ex.den} (hp : 0 < p ∧ p ≤ 1000000) (he:okX e):sumP p v [(e,n)] = (p,v,oneP p e n,()):=by
  obtain ⟨s1,s2⟩:=sumP_can (v:=v) (m:=[(e,n)]) hp.1 hp.2 fun k hk => by
    rcases lkeys_cons.1 k hk with rfl | h
    · exact he
    · cases h
  obtain ⟨q1,q2⟩:=putP_can (x:=n) (ts:=[]) hp.1 can_nil he
  have:(sumP p v [(e,n)]).2.2.1 = oneP p e n:=can_unique s1 q1 fun e' => by
    show _ = coT (putP p [] e n) e'
    rw [s2,q2]
    show mgI [(e,n)] e' % p = _
    rw [mgI_cons]
    by_cases q:e' = e
    · rw [if_pos q,if_pos q.symm,show coT [] e = 0 from rfl,Int.add_zero]
    · rw [if_neg q,if_neg fun w => q w.symm]; show (0:Int) % p = 0; simp
  show (p,v,(sumP p v [(e,n)]).2.2.1,()) = _
  rw [this]
theorem g103_ok {p v:Int} {m:Lg} (h : 0 < p ∧ p ≤ 1000000) (hl:(lkeys m).length ≤ 1000000):cf103 (m,p,v,()) = some (sumP p v m,()):=if_pos ⟨h.1,h.2,hl⟩
theorem k148:KOne Tryz.prog 175 ⟨[.v i64,.v i64,.v ex,.v i64],[poly],true,false,0,cf148⟩:=ok175 _ (.cons k103 .nil) cf148 fun x y h => by
  obtain ⟨p,v,e,n,_⟩:=x
  simp only [cf148] at h
  split at h
  · rename_i hc
    injection h with h; subst h
    obtain ⟨h1,h2⟩:=hc
    refine ⟨0,?_⟩
    have g:=g103_ok (v:=v) (m:=[(e,n)]) h1 (by have:=(lkeys_cons (x:=e) (y:=n) (m:=[])).2; simp [lkeys] at this ⊢)
    rw [one_same h1 h2] at g
    show (match cf103 ([(e,n)],p,v,()) with | some r7 => _ | none => none) = _
    rw [g]
  · cases h
theorem g148_ok {p v n:Int} {e:ex.den} (hp : 0 < p ∧ p ≤ 1000000) (he:okX e):cf148 (p,v,e,n,()) = some ((p,v,oneP p e n,()),()):=if_pos ⟨hp,he⟩
def e0:ex.den:=((0:Int),(0:Int),(0:Int),())
theorem okX_e0:okX e0:=by
  show ((0:Int) ≤ 0 ∧ (0:Int) ≤ 255) ∧ ((0:Int) ≤ 0 ∧ (0:Int) ≤ 255) ∧ ((0:Int) ≤ 0 ∧ (0:Int) ≤ 255)
  omega
noncomputable def cf102:G126:=by
  classical exact fun x => if (0 < x.1 ∧ x.1 ≤ 1000000) then some ((x.1,x.2.1,oneP x.1 e0 x.2.2.1,()),()) else none
theorem k102:KOne Tryz.prog 126 ⟨[.v i64,.v i64,.v i64],[poly],true,false,0,cf102⟩:=ok126 _ (.cons k148 .nil) cf102 fun x y h => by
  obtain ⟨p,v,n,_⟩:=x
  simp only [cf102] at h
  split at h
  · rename_i hc
    injection h with h; subst h
    refine ⟨0,?_⟩
    show (match cf148 (p,v,e0,n,()) with | some r6 => _ | none => none) = _
    rw [g148_ok hc okX_e0]
  · cases h
theorem g102_ok {p v n:Int} (hp : 0 < p ∧ p ≤ 1000000):cf102 (p,v,n,()) = some ((p,v,oneP p e0 n,()),()):=if_pos hp
noncomputable def S106b (F0:Nat) (kx:ShVal sh127_6->Option R127):ShVal sh127_6->(ShVal sh127_6->Option R127)->Option R127:=fun s k => st127_6 cf103 F0 s k kx
theorem run106b {p v p' v':Int} {z:poly.den} {A:List term.den} {ti:Int} {t:term.den} {F0:Nat} {kx:ShVal sh127_6->Option R127} (hp : 0 < p ∧ p ≤ 1000000) (ht:okX t.1 ∧ degX t.1 ≤ 100) (hn : 0 < nT t ∧ nT t < p):∀ (r pre:List term.den) (m:Lg) (F:Nat),r.length < F->(pre ++ r).length ≤ 1000000->(∀ s ∈ r,okX s.1 ∧ degX s.1 ≤ 100)->(∀ s ∈ r,0 < nT s ∧ nT s < p)->(∀ e,0 ≤ mgI m e ∧ mgI m e < p) →
    iter (S106b F0 kx) F ((p,v,A,()),((p',v',pre ++ r,()),((z.1,z.2.1,z.2.2.1,()),(m,((t.1,t.2.1,()),((A,()),(((A.length:Int),()),((ti,()),((pre ++ r,()),((((pre ++ r).length:Int),()),(((pre.length:Int),()),()))))))))))) =
      kx ((p,v,A,()),((p',v',pre ++ r,()),((z.1,z.2.1,z.2.2.1,()),(logR p t r m,((t.1,t.2.1,()),((A,()),(((A.length:Int),()),((ti,()),((pre ++ r,()),((((pre ++ r).length:Int),()),((((pre ++ r).length:Int),()),())))))))))))
  | [],pre,m,F,hF,hl,_,_,_ => by
    obtain ⟨F,rfl⟩:∃ f,F = f + 1:=⟨F - 1,by simp at hF; omega⟩
    rw [List.append_nil] at hl ⊢
    simp only [iter,S106b,st127_6]
    simp (disch:=omega) only [dlt_f,cond_false]
    rfl
  | s :: r,pre,m,F,hF,hl,h1,h2,h3 => by
    obtain ⟨F,rfl⟩:∃ f,F = f + 1:=⟨F - 1,by simp at hF; omega⟩
    have hpl:pre.length < (pre ++ s :: r).length:=by simp
    have hs:=h1 s (.head _)
    have hb:=mulb hp.2 hn (h2 s (.head _))
    have ew:=addX_w ht.1 hs.1 ht.2 hs.2
    have hm:=h3 (addX t.1 s.1)
    have wi:w6 ((pre.length:Int) + 1) = ((pre ++ [s]).length:Int):=by rw [w6_i (by omega) (by omega)]; simp
    have wk:Int.tmod (w6 (mgI m (addX t.1 s.1) + w6 (nT t * nT s))) p = (mgI m (addX t.1 s.1) + nT t * nT s) % p:=by
      rw [w6_i (x:=nT t * nT s) (by omega) (by omega),w6_i (by omega) (by omega),Int.tmod_eq_emod_of_nonneg (by omega)]
    have ih:=run106b (v:=v) (p':=p') (v':=v') (z:=z) (A:=A) (ti:=ti) (F0:=F0) (kx:=kx) hp ht hn r (pre ++ [s]) ((addX t.1 s.1,(mgI m (addX t.1 s.1) + nT t * nT s) % p) :: m) F (by simp at hF; omega) (by simpa using hl) (fun x hx => h1 x (.tail _ hx)) (fun x hx => h2 x (.tail _ hx)) (fun e => by
      rw [mgI_cons]; split
      · exact md_rng hp.1
      · exact h3 e)
    rw [show (pre ++ [s]) ++ r = pre ++ s :: r by simp,← wi] at ih
    show S106b F0 kx _ (iter (S106b F0 kx) F) = _
    generalize iter (S106b F0 kx) F = K at ih ⊢
    simp only [S106b,st127_6]
    simp (disch:=omega) only [dlt_t,cond_true,ofn,ib_t,tn_cast,getD_pre,deq_f,Bool.not_false]
    show K ((p,v,A,()),((p',v',pre ++ s :: r,()),((z.1,z.2.1,z.2.2.1,()),(((((w8 (x0 t.1 + x0 s.1),w8 (x1 t.1 + x1 s.1),w8 (x2 t.1 + x2 s.1),()):ex.den),Int.tmod (w6 (mgI m ((w8 (x0 t.1 + x0 s.1),w8 (x1 t.1 + x1 s.1),w8 (x2 t.1 + x2 s.1),()):ex.den) + w6 (nT t * nT s))) p) :: m),((t.1,t.2.1,()),((A,()),(((A.length:Int),()),((ti,()),((pre ++ s :: r,()),((((pre ++ s :: r).length:Int),()),(((w6 ((pre.length:Int) + 1)),()),()))))))))))) = _
    rw [ew,wk]
    exact ih
noncomputable def S106a (F0:Nat):ShVal sh127_3->(ShVal sh127_3->Option R127)->Option R127:=fun s k => st127_3 cf103 F0 s k (fun s' => match s' with | ((t2_0,t2_1,t2_2,_),(t3_0,t3_1,t3_2,_),(t4_0,t4_1,t4_2,_),t5,(t13,_),(t14,_),(t15,_),_) => (match (cf103 (t5,(t2_0,(t2_1,())))) with | some r20 => (some ((r20.1.1,(r20.1.2.1,(r20.1.2.2.1,()))),())) | none => none))
theorem run106a {p v p' v':Int} {z:poly.den} {b:List term.den} {F0:Nat} (hp : 0 < p ∧ p ≤ 1000000) (hF0:b.length < F0) (hbl:b.length ≤ 1000000) (hb:∀ s ∈ b,okX s.1 ∧ degX s.1 ≤ 100) (hbn:∀ s ∈ b,0 < nT s ∧ nT s < p):∀ (r pre:List term.den) (m:Lg) (F:Nat),r.length < F->(pre ++ r).length ≤ 1000000->(∀ s ∈ r,okX s.1 ∧ degX s.1 ≤ 100)->(∀ s ∈ r,0 < nT s ∧ nT s < p)->(∀ e,0 ≤ mgI m e ∧ mgI m e < p) →
    iter (S106a F0) F ((p,v,pre ++ r,()),((p',v',b,()),((z.1,z.2.1,z.2.2.1,()),(m,((pre ++ r,()),((((pre ++ r).length:Int),()),(((pre.length:Int),()),()))))))) =
      (match (cf103 (logM p b r m,(p,(v,())))) with | some r20 => (some ((r20.1.1,(r20.1.2.1,(r20.1.2.2.1,()))),())) | none => none)
  | [],pre,m,F,hF,hl,_,_,_ => by
    obtain ⟨F,rfl⟩:∃ f,F = f + 1:=⟨F - 1,by simp at hF; omega⟩
    rw [List.append_nil] at hl ⊢
    simp only [iter,S106a,st127_3]
    simp (disch:=omega) only [dlt_f,cond_false]
    rfl
  | t :: r,pre,m,F,hF,hl,h1,h2,h3 => by
    obtain ⟨F,rfl⟩:∃ f,F = f + 1:=⟨F - 1,by simp at hF; omega⟩
    have hpl:pre.length < (pre ++ t :: r).length:=by simp
    have wi:w6 ((pre.length:Int) + 1) = ((pre ++ [t]).length:Int):=by rw [w6_i (by omega) (by omega)]; simp
    have ih:=run106a (v:=v) (p':=p') (v':=v') (z:=z) (F0:=F0) hp hF0 hbl hb hbn r (pre ++ [t]) (logR p t b m) F (by simp at hF; omega) (by simpa using hl) (fun x hx => h1 x (.tail _ hx)) (fun x hx => h2 x (.tail _ hx)) (logR_rng hp.1 h3)
    rw [show (pre ++ [t]) ++ r = pre ++ t :: r by simp,← wi] at ih
    show S106a F0 _ (iter (S106a F0) F) = _
    generalize iter (S106a F0) F = K at ih ⊢
    simp only [S106a,st127_3]
    simp (disch:=omega) only [dlt_t,dln_t,cond_true,ofn,ib_t,tn_cast,getD_pre]
    have key:=run106b (v:=v) (p':=p') (v':=v') (z:=z) (A:=pre ++ t :: r) (ti:=(pre.length:Int)) (t:=t) (F0:=F0) (kx:=fun s' => match s' with | ((t2_0,t2_1,t2_2,_),(t3_0,t3_1,t3_2,_),(t4_0,t4_1,t4_2,_),t5,(t7_0,t7_1,_),(t13,_),(t14,_),(t15,_),(t20,_),(t21,_),(t22,_),_) => K ((t2_0,(t2_1,(t2_2,()))),((t3_0,(t3_1,(t3_2,()))),((t4_0,(t4_1,(t4_2,()))),(t5,((t13,()),((t14,()),(((w6 (t15 + (1:Int))),()),())))))))) hp (h1 t (.head _)) (h2 t (.head _)) b [] m F0 hF0 (by simpa using hbl) hb hbn h3
    exact key.trans ih
noncomputable def okMulI (p:Int) (a b:List term.den):Prop:=(0 < p ∧ p ≤ 1000000) ∧ CanT p a ∧ CanT p b ∧ DegLe 40 a ∧ DegLe 40 b
noncomputable def cf106:G127:=by
  classical exact fun x => if okMulI x.1.1 x.1.2.2.1 x.2.1.2.2.1 then some ((x.1.1,x.1.2.1,timesP x.1.1 x.1.2.2.1 x.2.1.2.2.1,()),()) else none
theorem k106:KOne Tryz.prog 127 ⟨[.v poly,.v poly],[poly],true,false,0,cf106⟩:=ok127 _ (.cons k103 .nil) cf106 fun x y h => by
  obtain ⟨⟨p,v,a,_⟩,⟨q,w,b,_⟩,_⟩:=x
  simp only [cf106] at h
  split at h
  · rename_i hc
    injection h with h; subst h
    obtain ⟨hp,ha,hb,da,db⟩:=hc
    have la:=can_len ha da (by omega)
    have lb:=can_len hb db (by omega)
    refine ⟨List.length a + List.length b + 1,?_⟩
    obtain ⟨e1,e2⟩:=mul_same (v:=v) hp.1 hp.2 ha hb da db (by omega) (by omega)
    have g:=g103_ok (v:=v) hp e2
    rw [e1] at g
    show (bif decide (List.length a ≤ _) then _ else _) = _
    rw [dln_t (by omega),cond_true]
    refine (run106a (v:=v) (p':=q) (v':=w) (z:=Ty.dflt poly) (b:=b) (F0:=List.length a + List.length b + 1) hp (by omega) (by omega) (small hb db (by omega)) (fun s hs => nT_rng hb hs) a [] [] (List.length a + List.length b + 1) (by omega) (by simpa using Nat.le_trans la (by omega)) (small ha da (by omega)) (fun s hs => nT_rng ha hs) fun e => by
      rw [show mgI [] e = 0 from rfl]; omega).trans ?_
    rw [g]
  · cases h
theorem g106_ok {p v v':Int} {a b:List term.den} (h:okMulI p a b):cf106 ((p,v,a,()),(p,v',b,()),()) = some ((p,v,timesP p a b,()),()):=if_pos h
def leX (i:Nat):ex.den:=tset (1:Int) 3 (tup Int (0:Int) 3) i
theorem leX_ok {i:Nat} (h:i < 3):okX (leX i) ∧ degX (leX i) = 1:=by
  have a:okX (leX 0) ∧ degX (leX 0) = 1:=⟨by show ((0:Int) ≤ 1 ∧ (1:Int) ≤ 255) ∧ ((0:Int) ≤ 0 ∧ (0:Int) ≤ 255) ∧ ((0:Int) ≤ 0 ∧ (0:Int) ≤ 255); omega,rfl⟩
  have b:okX (leX 1) ∧ degX (leX 1) = 1:=⟨by show ((0:Int) ≤ 0 ∧ (0:Int) ≤ 255) ∧ ((0:Int) ≤ 1 ∧ (1:Int) ≤ 255) ∧ ((0:Int) ≤ 0 ∧ (0:Int) ≤ 255); omega,rfl⟩
  have c:okX (leX 2) ∧ degX (leX 2) = 1:=⟨by show ((0:Int) ≤ 0 ∧ (0:Int) ≤ 255) ∧ ((0:Int) ≤ 0 ∧ (0:Int) ≤ 255) ∧ ((0:Int) ≤ 1 ∧ (1:Int) ≤ 255); omega,rfl⟩
  rcases (show i = 0 ∨ i = 1 ∨ i = 2 by omega) with rfl | rfl | rfl <;> assumption
theorem leX_ne {i j:Nat} (hi:i < 3) (hj:j < 3) (h:i ≠ j):leX i ≠ leX j:=by
  have a:leX 0 ≠ leX 1:=by decide
  have b:leX 0 ≠ leX 2:=by decide
  have c:leX 1 ≠ leX 2:=by decide
  rcases (show i = 0 ∨ i = 1 ∨ i = 2 by omega) with rfl | rfl | rfl <;> rcases (show j = 0 ∨ j = 1 ∨ j = 2 by omega) with rfl | rfl | rfl <;> first | exact absurd rfl h | assumption | (intro q; first | exact a q.symm | exact b q.symm | exact c q.symm)
def linP (p:Int) (f:Nat->Int):Nat->List term.den
  | 0 => []
  | k + 1 => putP p (linP p f k) (leX k) (f k)
def linN (p:Int) (f:Nat->Int):Nat->ex.den->Int
  | 0,_ => 0
  | k + 1,e => if e = leX k then f k % p else linN p f k e
def linL (f:Nat->Int):Nat->Lg
  | 0 => []
  | k + 1 => (leX k,f k) :: linL f k
theorem linN_none {p:Int} {f:Nat->Int}:∀ {k:Nat} {e:ex.den},(∀ i,i < k->e ≠ leX i)->linN p f k e = 0
  | 0,e,_ => rfl
  | k + 1,e,h => by
    simp only [linN]; rw [if_neg (h k (by omega))]; exact linN_none fun i hi => h i (by omega)
theorem linP_can {p:Int} {f:Nat->Int} (hp : 0 < p):∀ {k:Nat},k ≤ 3->CanT p (linP p f k) ∧ ∀ e,coT (linP p f k) e = linN p f k e
  | 0,_ => ⟨can_nil,fun e => rfl⟩
  | k + 1,hk => by
    obtain ⟨h1,h2⟩:=linP_can (f:=f) hp (k:=k) (by omega)
    obtain ⟨h3,h4⟩:=putP_can (x:=f k) hp h1 (leX_ok (i:=k) (by omega)).1
    refine ⟨h3,fun e => ?_⟩
    show coT (putP p (linP p f k) (leX k) (f k)) e = _
    rw [h4,h2,h2]
    simp only [linN]
    by_cases q:e = leX k
    · rw [if_pos q,if_pos q,linN_none fun i hi => leX_ne (by omega) (by omega) (by omega),Int.add_zero]
    · rw [if_neg q,if_neg q]
theorem linP_skip {p:Int} {f:Nat->Int} {k:Nat} (hp : 0 < p) (hk:k + 1 ≤ 3) (h:f k % p = 0):linP p f (k + 1) = linP p f k :=
  can_unique (linP_can hp hk).1 (linP_can hp (by omega)).1 fun e => by
    rw [(linP_can hp hk).2,(linP_can hp (by omega)).2]
    simp only [linN]
    by_cases q:e = leX k
    · rw [if_pos q,h,q,linN_none fun i hi => leX_ne (by omega) (by omega) (by omega)]
    · rw [if_neg q]
theorem linL_get {f:Nat->Int} {p:Int}:∀ {k:Nat} {e:ex.den},mgI (linL f k) e % p = linN p f k e
  | 0,e => by show (0:Int) % p = 0; simp
  | k + 1,e => by
    simp only [linL,linN]
    rw [mgI_cons]
    by_cases q:e = leX k
    · rw [if_pos q,if_pos q.symm]
    · rw [if_neg q,if_neg fun w => q w.symm]; exact linL_get
theorem linL_keys {f:Nat->Int}:∀ {k:Nat},k ≤ 3->(∀ q ∈ lkeys (linL f k),okX q) ∧ (lkeys (linL f k)).length ≤ k
  | 0,_ => ⟨fun q h => (by cases h),Nat.le_refl _⟩
  | k + 1,hk => by
    obtain ⟨h1,h2⟩:=linL_keys (f:=f) (k:=k) (by omega)
    obtain ⟨c,d⟩:=lkeys_cons (x:=leX k) (y:=f k) (m:=linL f k)
    refine ⟨fun q h => ?_,Nat.le_trans d (by omega)⟩
    rcases c q h with rfl | h
    · exact (leX_ok (by omega)).1
    · exact h1 q h
theorem lin_same {p v:Int} {f:Nat->Int} {k:Nat} (h1 : 0 < p) (h2:p ≤ 1000000) (hk:k ≤ 3):sumP p v (linL f k) = (p,v,linP p f k,()):=by
  obtain ⟨s1,s2⟩:=sumP_can (v:=v) h1 h2 (linL_keys (f:=f) hk).1
  have:(sumP p v (linL f k)).2.2.1 = linP p f k:=can_unique s1 (linP_can h1 hk).1 fun e => by
    rw [s2,(linP_can h1 hk).2]
    exact linL_get
  show (p,v,(sumP p v (linL f k)).2.2.1,()) = _
  rw [this]
theorem linP_deg {p:Int} {f:Nat->Int} {k:Nat} (hp : 0 < p) (hk:k ≤ 3):DegLe 1 (linP p f k):=by
  obtain ⟨c1,c2⟩:=linP_can (f:=f) hp hk
  refine degLe_of c1 fun e he => ?_
  rw [c2,linN_none fun i hi q => by subst q; rw [(leX_ok (i:=i) (by omega)).2] at he; omega]
theorem g103_lin {p v:Int} {f:Nat->Int} {k:Nat} (hp : 0 < p ∧ p ≤ 1000000) (hk:k ≤ 3):cf103 (linL f k,p,v,()) = some ((p,v,linP p f k,()),()):=by
  rw [g103_ok hp (by have:=(linL_keys (f:=f) hk).2; omega),lin_same hp.1 hp.2 hk]
abbrev R227:Type:=Ress [.bool]
abbrev G227:Type:=Args [.v ex,.v ex]->Option R227
abbrev kp227:List (Nat × List Nat):=[(0,[3,2]),(1,[5,3,2]),(2,[7,2,3,5]),(4,[16,2,3,5]),(5,[4]),(3,[5,3,2]),(6,[4])]
abbrev ct227:CTab:=[]
abbrev kr227:Env->Option R227:=endK TT [.tmp 4] [.bool] false false
abbrev sh227_2:Shape:=[(2,bb ex),(3,bb ex),(5,vv i64)]
def st227_2 (F:Nat) (s:ShVal sh227_2) (k kx:ShVal sh227_2->Option R227):Option R227 :=
  match s with
  | ((t2,_),(t3,_),(t5,_),_) => (bif decide (t5 < (3:Int)) then (bif ib t5 (Int.ofNat 3) then (bif ib t5 (Int.ofNat 3) then (bif (!decide ((tget (0:Int) 3 t2 (tn t5)) = (tget (0:Int) 3 t3 (tn t5)))) then (some (false,())) else k ((t2,()),((t3,()),(((w6 (t5 + (1:Int))),()),())))) else none) else none) else kx ((t2,()),((t3,()),((t5,()),()))))
def ru227_2 (F:Nat) (s:ShVal sh227_2) (kx:ShVal sh227_2->Option R227):Option R227:=iter (fun s k => st227_2 F s k kx) F s
abbrev ls227_2 (F:Nat):LS R227:=⟨sh227_2,0,ru227_2 F⟩
def fn227 (F:Nat) (x:Args [.v ex,.v ex]):Option R227 :=
  match x with
  | (x0,x1,_) => (ru227_2 F ((x0,()),((x1,()),(((0:Int),()),()))) (fun s' => match s' with | ((t2,_),(t3,_),(t5,_),_) => (some (true,()))))
theorem ev227_2 (F:Nat) (s:ShVal sh227_2) (k kx:ShVal sh227_2->Option R227):evL TT (ct227 ) kp227 [] (loopOf Tryz.f227 2) (envOf sh227_2 s) (fitK sh227_2 k) (fun j e => bif Nat.beq j 0 then fitK sh227_2 kx e else none) kr227 = st227_2 F s k kx:=by
  obtain ⟨⟨t2,_⟩,⟨t3,_⟩,⟨t5,_⟩,_⟩:=s
  kernel_rfl
theorem ok227_2 (F:Nat) (hK:KOK Tryz.prog (ct227 )):LSOK Tryz.prog ⟨17,false,undef⟩ (ls227_2 F) (loopOf Tryz.f227 2) kr227 :=
  loop_ok (st227_2 F) mixed tt_ok hK (by kernel_rfl) (LTOK_by (l:=[]) (by kernel_rfl) trivial) (ev227_2 F)
theorem ev227 (F:Nat) (x:Args [.v ex,.v ex]):fnK TT (ct227 ) kp227 [.bool] [(2,ls227_2 F)] (bodyOf Tryz.f227) [.tmp 4] [.v ex,.v ex] false false x = fn227 F x:=by
  obtain ⟨x0,x1,_⟩:=x
  kernel_rfl
theorem ok227 (hK:KOK Tryz.prog (ct227 )) (cf:G227) (h:∀ x y,cf x = some y->∃ F,fn227 F x = some y):KOne Tryz.prog 227 ⟨[.v ex,.v ex],[.bool],false,false,0,cf⟩ :=
  fn_one rfl (c:=bodyOf Tryz.f227) mixed tt_ok hK Tryz.func227 (by kernel_rfl) (by kernel_rfl) (Nat.le_of_ble_eq_true (by kernel_rfl)) (by decide) fun x y hxy => by
    obtain ⟨F,hF⟩:=h x y hxy
    exact ⟨[(2,ls227_2 F)],LTOK_by (l:=[loopOf Tryz.f227 2]) (by kernel_rfl) ⟨ls_at (by kernel_rfl) (ok227_2 F hK),trivial⟩,(ev227 F x).trans hF⟩
abbrev R178:Type:=Ress [.bool]
abbrev G178:Type:=Args [.v term,.v term]->Option R178
abbrev kp178:List (Nat × List Nat):=[(0,[3,2]),(1,[10,3,2]),(2,[4]),(3,[15]),(4,[4]),(5,[4])]
abbrev ct178 (g227:G227):CTab:=[(227,⟨[.v ex,.v ex],[.bool],false,false,0,g227⟩)]
def fn178 (g227:G227) (F:Nat) (x:Args [.v term,.v term]):Option R178 :=
  match x with
  | (x0,x1,_) => (match (g227 (x0.1,(x1.1,()))) with | some r5 => (bif (!r5.1) then (some (false,())) else (bif (!decide (x0.2.1 = x1.2.1)) then (some (false,())) else (some (true,())))) | none => none)
theorem ev178 (g227:G227) (F:Nat) (x:Args [.v term,.v term]):fnK TT (ct178 g227 ) kp178 [.bool] [] (bodyOf Tryz.f178) [.tmp 4] [.v term,.v term] false false x = fn178 g227 F x:=by
  obtain ⟨x0,x1,_⟩:=x
  kernel_rfl
theorem ok178 (g227:G227) (hK:KOK Tryz.prog (ct178 g227 )) (cf:G178) (h:∀ x y,cf x = some y->∃ F,fn178 g227 F x = some y):KOne Tryz.prog 178 ⟨[.v term,.v term],[.bool],false,false,0,cf⟩ :=
  fn_one rfl (c:=bodyOf Tryz.f178) mixed tt_ok hK Tryz.func178 (by kernel_rfl) (by kernel_rfl) (Nat.le_of_ble_eq_true (by kernel_rfl)) (by decide) fun x y hxy => by
    obtain ⟨F,hF⟩:=h x y hxy
    exact ⟨[],LTOK_by (l:=[]) (by kernel_rfl) trivial,(ev178 g227 F x).trans hF⟩
abbrev R99:Type:=Ress [.bool]
abbrev G99:Type:=Args [.v (.slice 135 term),.v (.slice 135 term)]->Option R99
abbrev kp99:List (Nat × List Nat):=[(0,[0,1]),(1,[10,0,1]),(2,[4]),(3,[5,1,0]),(4,[14,0,1,5]),(6,[26,0,1,5]),(7,[4]),(5,[5,1,0]),(8,[4])]
abbrev ct99 (g178:G178):CTab:=[(178,⟨[.v term,.v term],[.bool],false,false,0,g178⟩)]
abbrev kr99:Env->Option R99:=endK TT [.tmp 4] [.bool] false false
abbrev sh99_4:Shape:=[(0,.val false [.fz (.slice 135 term) 0 true]),(1,.val false [.fz (.slice 135 term) 0 true]),(5,vv i64)]
def st99_4 (g178:G178) (F:Nat) (s:ShVal sh99_4) (k kx:ShVal sh99_4->Option R99):Option R99 :=
  match s with
  | ((t0,_),(t1,_),(t5,_),_) => (bif decide ((List.length t0) ≤ 9223372036854775807) then (bif decide (t5 < (Int.ofNat (List.length t0))) then (bif ib t5 (Int.ofNat (List.length t0)) then (bif ib t5 (Int.ofNat (List.length t1)) then (match (g178 ((List.getD t0 (tn t5) (Ty.dflt (.pair (.arr 3 (.int .u8)) (.pair (.int .i64) .unit)))),((List.getD t1 (tn t5) (Ty.dflt (.pair (.arr 3 (.int .u8)) (.pair (.int .i64) .unit)))),()))) with | some r11 => (bif (!r11.1) then (some (false,())) else k ((t0,()),((t1,()),(((w6 (t5 + (1:Int))),()),())))) | none => none) else none) else none) else kx ((t0,()),((t1,()),((t5,()),())))) else none)
def ru99_4 (g178:G178) (F:Nat) (s:ShVal sh99_4) (kx:ShVal sh99_4->Option R99):Option R99:=iter (fun s k => st99_4 g178 F s k kx) F s
abbrev ls99_4 (g178:G178) (F:Nat):LS R99:=⟨sh99_4,0,ru99_4 g178 F⟩
def fn99 (g178:G178) (F:Nat) (x:Args [.v (.slice 135 term),.v (.slice 135 term)]):Option R99 :=
  match x with
  | (x0,x1,_) => (bif decide ((List.length x0) ≤ 9223372036854775807) then (bif decide ((List.length x1) ≤ 9223372036854775807) then (bif (!decide ((Int.ofNat (List.length x0)) = (Int.ofNat (List.length x1)))) then (some (false,())) else (ru99_4 g178 F ((x0,()),((x1,()),(((0:Int),()),()))) (fun s' => match s' with | ((t0,_),(t1,_),(t5,_),_) => (some (true,()))))) else none) else none)
theorem ev99_4 (g178:G178) (F:Nat) (s:ShVal sh99_4) (k kx:ShVal sh99_4->Option R99):evL TT (ct99 g178 ) kp99 [] (loopOf Tryz.f99 4) (envOf sh99_4 s) (fitK sh99_4 k) (fun j e => bif Nat.beq j 0 then fitK sh99_4 kx e else none) kr99 = st99_4 g178 F s k kx:=by
  obtain ⟨⟨t0,_⟩,⟨t1,_⟩,⟨t5,_⟩,_⟩:=s
  kernel_rfl
theorem ok99_4 (g178:G178) (F:Nat) (hK:KOK Tryz.prog (ct99 g178 )):LSOK Tryz.prog ⟨27,false,undef⟩ (ls99_4 g178 F) (loopOf Tryz.f99 4) kr99 :=
  loop_ok (st99_4 g178 F) mixed tt_ok hK (by kernel_rfl) (LTOK_by (l:=[]) (by kernel_rfl) trivial) (ev99_4 g178 F)
theorem ev99 (g178:G178) (F:Nat) (x:Args [.v (.slice 135 term),.v (.slice 135 term)]):fnK TT (ct99 g178 ) kp99 [.bool] [(4,ls99_4 g178 F)] (bodyOf Tryz.f99) [.tmp 4] [.v (.slice 135 term),.v (.slice 135 term)] false false x = fn99 g178 F x:=by
  obtain ⟨x0,x1,_⟩:=x
  kernel_rfl
theorem ok99 (g178:G178) (hK:KOK Tryz.prog (ct99 g178 )) (cf:G99) (h:∀ x y,cf x = some y->∃ F,fn99 g178 F x = some y):KOne Tryz.prog 99 ⟨[.v (.slice 135 term),.v (.slice 135 term)],[.bool],false,false,0,cf⟩ :=
  fn_one rfl (c:=bodyOf Tryz.f99) mixed tt_ok hK Tryz.func99 (by kernel_rfl) (by kernel_rfl) (Nat.le_of_ble_eq_true (by kernel_rfl)) (by decide) fun x y hxy => by
    obtain ⟨F,hF⟩:=h x y hxy
    exact ⟨[(4,ls99_4 g178 F)],LTOK_by (l:=[loopOf Tryz.f99 4]) (by kernel_rfl) ⟨ls_at (by kernel_rfl) (ok99_4 g178 F hK),trivial⟩,(ev99 g178 F x).trans hF⟩
abbrev R30:Type:=Ress [.bool]
abbrev G30:Type:=Args [.v poly,.v poly]->Option R30
abbrev kp30:List (Nat × List Nat):=[(0,[2,3]),(1,[9,2,3]),(2,[4]),(3,[14,3,2]),(4,[4]),(5,[20]),(6,[4]),(7,[4])]
abbrev ct30 (g99:G99):CTab:=[(99,⟨[.v (.slice 135 term),.v (.slice 135 term)],[.bool],false,false,0,g99⟩)]
def fn30 (g99:G99) (F:Nat) (x:Args [.v poly,.v poly]):Option R30 :=
  match x with
  | (x0,x1,_) => (bif (!decide (x0.1 = x1.1)) then (some (false,())) else (bif (!decide (x0.2.1 = x1.2.1)) then (some (false,())) else (match (g99 (x0.2.2.1,(x1.2.2.1,()))) with | some r7 => (bif (!r7.1) then (some (false,())) else (some (true,()))) | none => none)))
theorem ev30 (g99:G99) (F:Nat) (x:Args [.v poly,.v poly]):fnK TT (ct30 g99 ) kp30 [.bool] [] (bodyOf Tryz.f30) [.tmp 4] [.v poly,.v poly] false false x = fn30 g99 F x:=by
  obtain ⟨x0,x1,_⟩:=x
  kernel_rfl
theorem ok30 (g99:G99) (hK:KOK Tryz.prog (ct30 g99 )) (cf:G30) (h:∀ x y,cf x = some y->∃ F,fn30 g99 F x = some y):KOne Tryz.prog 30 ⟨[.v poly,.v poly],[.bool],false,false,0,cf⟩ :=
  fn_one rfl (c:=bodyOf Tryz.f30) mixed tt_ok hK Tryz.func30 (by kernel_rfl) (by kernel_rfl) (Nat.le_of_ble_eq_true (by kernel_rfl)) (by decide) fun x y hxy => by
    obtain ⟨F,hF⟩:=h x y hxy
    exact ⟨[],LTOK_by (l:=[]) (by kernel_rfl) trivial,(ev30 g99 F x).trans hF⟩
abbrev R116:Type:=Ress [i64]
abbrev G116:Type:=Args [.v (.slice 135 term),.v i64]->Option R116
abbrev kp116:List (Nat × List Nat):=[(0,[0,1]),(1,[0,5,1]),(2,[10,1,5,0]),(4,[1,6,5,0]),(5,[14,0,5,6,1]),(7,[26,0,5,6,1]),(8,[4]),(9,[6,1,5,0]),(6,[1,6,5,0]),(10,[35,0,5,1]),(11,[4]),(12,[5,0,1]),(3,[0,5,1]),(13,[4])]
abbrev ct116:CTab:=[]
abbrev kr116:Env->Option R116:=endK TT [.tmp 4] [i64] false false
abbrev sh116_5:Shape:=[(0,.val false [.fz (.slice 135 term) 0 true]),(1,vv i64),(5,vv i64),(6,vv i64)]
def st116_5 (F:Nat) (s:ShVal sh116_5) (k kx:ShVal sh116_5->Option R116):Option R116 :=
  match s with
  | ((t0,_),(t1,_),(t5,_),(t6,_),_) => (bif decide (t6 < (3:Int)) then (bif ib t5 (Int.ofNat (List.length t0)) then (bif ib t6 (Int.ofNat 3) then (bif (!decide ((tget (0:Int) 3 (List.getD t0 (tn t5) (Ty.dflt (.pair (.arr 3 (.int .u8)) (.pair (.int .i64) .unit)))).1 (tn t6)) = (w8 t1))) then (some ((-(1:Int)),())) else k ((t0,()),(((w6 (t1 + (1:Int))),()),((t5,()),(((w6 (t6 + (1:Int))),()),()))))) else none) else none) else kx ((t0,()),((t1,()),((t5,()),((t6,()),())))))
def ru116_5 (F:Nat) (s:ShVal sh116_5) (kx:ShVal sh116_5->Option R116):Option R116:=iter (fun s k => st116_5 F s k kx) F s
abbrev ls116_5 (F:Nat):LS R116:=⟨sh116_5,2,ru116_5 F⟩
abbrev sh116_2:Shape:=[(0,.val false [.fz (.slice 135 term) 0 true]),(1,vv i64),(5,vv i64)]
def st116_2 (F:Nat) (s:ShVal sh116_2) (k kx:ShVal sh116_2->Option R116):Option R116 :=
  match s with
  | ((t0,_),(t1,_),(t5,_),_) => (bif decide ((List.length t0) ≤ 9223372036854775807) then (bif decide (t5 < (Int.ofNat (List.length t0))) then (ru116_5 F ((t0,()),((t1,()),((t5,()),(((0:Int),()),())))) (fun s' => match s' with | ((t0,_),(t1,_),(t5,_),(t6,_),_) => (bif ib t5 (Int.ofNat (List.length t0)) then (bif (!decide ((List.getD t0 (tn t5) (Ty.dflt (.pair (.arr 3 (.int .u8)) (.pair (.int .i64) .unit)))).2.1 = t1)) then (some ((-(1:Int)),())) else k ((t0,()),(((w6 (t1 + (1:Int))),()),(((w6 (t5 + (1:Int))),()),())))) else none))) else kx ((t0,()),((t1,()),((t5,()),())))) else none)
def ru116_2 (F:Nat) (s:ShVal sh116_2) (kx:ShVal sh116_2->Option R116):Option R116:=iter (fun s k => st116_2 F s k kx) F s
abbrev ls116_2 (F:Nat):LS R116:=⟨sh116_2,0,ru116_2 F⟩
def fn116 (F:Nat) (x:Args [.v (.slice 135 term),.v i64]):Option R116 :=
  match x with
  | (x0,x1,_) => (ru116_2 F ((x0,()),((x1,()),(((0:Int),()),()))) (fun s' => match s' with | ((t0,_),(t1,_),(t5,_),_) => (some (t1,()))))
theorem ev116_5 (F:Nat) (s:ShVal sh116_5) (k kx:ShVal sh116_5->Option R116):evL TT (ct116 ) kp116 [] (loopOf Tryz.f116 5) (envOf sh116_5 s) (fitK sh116_5 k) (fun j e => bif Nat.beq j 2 then fitK sh116_5 kx e else none) kr116 = st116_5 F s k kx:=by
  obtain ⟨⟨t0,_⟩,⟨t1,_⟩,⟨t5,_⟩,⟨t6,_⟩,_⟩:=s
  kernel_rfl
theorem ok116_5 (F:Nat) (hK:KOK Tryz.prog (ct116 )):LSOK Tryz.prog ⟨39,false,undef⟩ (ls116_5 F) (loopOf Tryz.f116 5) kr116 :=
  loop_ok (st116_5 F) mixed tt_ok hK (by kernel_rfl) (LTOK_by (l:=[]) (by kernel_rfl) trivial) (ev116_5 F)
theorem ev116_2 (F:Nat) (s:ShVal sh116_2) (k kx:ShVal sh116_2->Option R116):evL TT (ct116 ) kp116 [(5,ls116_5 F)] (loopOf Tryz.f116 2) (envOf sh116_2 s) (fitK sh116_2 k) (fun j e => bif Nat.beq j 0 then fitK sh116_2 kx e else none) kr116 = st116_2 F s k kx:=by
  obtain ⟨⟨t0,_⟩,⟨t1,_⟩,⟨t5,_⟩,_⟩:=s
  kernel_rfl
theorem ok116_2 (F:Nat) (hK:KOK Tryz.prog (ct116 )):LSOK Tryz.prog ⟨39,false,undef⟩ (ls116_2 F) (loopOf Tryz.f116 2) kr116 :=
  loop_ok (st116_2 F) mixed tt_ok hK (by kernel_rfl) (LTOK_by (l:=[loopOf Tryz.f116 5]) (by kernel_rfl) ⟨ls_at (by kernel_rfl) (ok116_5 F hK),trivial⟩) (ev116_2 F)
theorem ev116 (F:Nat) (x:Args [.v (.slice 135 term),.v i64]):fnK TT (ct116 ) kp116 [i64] [(2,ls116_2 F)] (bodyOf Tryz.f116) [.tmp 4] [.v (.slice 135 term),.v i64] false false x = fn116 F x:=by
  obtain ⟨x0,x1,_⟩:=x
  kernel_rfl
theorem ok116 (hK:KOK Tryz.prog (ct116 )) (cf:G116) (h:∀ x y,cf x = some y->∃ F,fn116 F x = some y):KOne Tryz.prog 116 ⟨[.v (.slice 135 term),.v i64],[i64],false,false,0,cf⟩ :=
  fn_one rfl (c:=bodyOf Tryz.f116) mixed tt_ok hK Tryz.func116 (by kernel_rfl) (by kernel_rfl) (Nat.le_of_ble_eq_true (by kernel_rfl)) (by decide) fun x y hxy => by
    obtain ⟨F,hF⟩:=h x y hxy
    exact ⟨[(2,ls116_2 F)],LTOK_by (l:=[loopOf Tryz.f116 2]) (by kernel_rfl) ⟨ls_at (by kernel_rfl) (ok116_2 F hK),trivial⟩,(ev116 F x).trans hF⟩
abbrev R55:Type:=Ress [i64]
abbrev G55:Type:=Args [.v poly,.v i64]->Option R55
abbrev kp55:List (Nat × List Nat):=[(0,[2,1]),(1,[1]),(2,[10,1]),(3,[4]),(4,[4])]
abbrev ct55 (g116:G116):CTab:=[(116,⟨[.v (.slice 135 term),.v i64],[i64],false,false,0,g116⟩)]
def fn55 (g116:G116) (F:Nat) (x:Args [.v poly,.v i64]):Option R55 :=
  match x with
  | (x0,x1,_) => (match (g116 (x0.2.2.1,(x1,()))) with | some r5 => (bif decide (r5.1 < (0:Int)) then (some ((-(1:Int)),())) else (some (r5.1,()))) | none => none)
theorem ev55 (g116:G116) (F:Nat) (x:Args [.v poly,.v i64]):fnK TT (ct55 g116 ) kp55 [i64] [] (bodyOf Tryz.f55) [.tmp 4] [.v poly,.v i64] false false x = fn55 g116 F x:=by
  obtain ⟨x0,x1,_⟩:=x
  kernel_rfl
theorem ok55 (g116:G116) (hK:KOK Tryz.prog (ct55 g116 )) (cf:G55) (h:∀ x y,cf x = some y->∃ F,fn55 g116 F x = some y):KOne Tryz.prog 55 ⟨[.v poly,.v i64],[i64],false,false,0,cf⟩ :=
  fn_one rfl (c:=bodyOf Tryz.f55) mixed tt_ok hK Tryz.func55 (by kernel_rfl) (by kernel_rfl) (Nat.le_of_ble_eq_true (by kernel_rfl)) (by decide) fun x y hxy => by
    obtain ⟨F,hF⟩:=h x y hxy
    exact ⟨[],LTOK_by (l:=[]) (by kernel_rfl) trivial,(ev55 g116 F x).trans hF⟩
abbrev R110:Type:=Ress [(.slice 135 term),i64]
abbrev G110:Type:=Args [.v (.slice 135 term),.v i64]->Option R110
abbrev kp110:List (Nat × List Nat):=[(0,[0,1]),(1,[0,5,1]),(2,[10,1,5,0]),(4,[6,1,5,0]),(5,[14,1,6,5,0]),(7,[1,6,5,0]),(8,[6,1,5,0]),(6,[6,1,5,0]),(9,[1,5,0]),(10,[5,0,1]),(3,[0,5,1]),(11,[4,0])]
abbrev ct110:CTab:=[]
abbrev kr110:Env->Option R110:=endM 135 term [.tmp 4]
abbrev sh110_5:Shape:=[(0,vr 135 term 1 false),(1,vv i64),(5,vv i64),(6,vv i64)]
def st110_5 (F:Nat) (s:ShVal sh110_5) (k kx:ShVal sh110_5->Option R110):Option R110 :=
  match s with
  | ((t0,_),(t1,_),(t5,_),(t6,_),_) => (bif decide (t6 < (3:Int)) then (bif ib t5 (Int.ofNat (List.length t0)) then (bif ib t6 (Int.ofNat 3) then k (((List.set t0 (tn t5) ((tset (w8 t1) 3 (List.getD t0 (tn t5) (Ty.dflt (.pair (.arr 3 (.int .u8)) (.pair (.int .i64) .unit)))).1 (tn t6)),(List.getD t0 (tn t5) (Ty.dflt (.pair (.arr 3 (.int .u8)) (.pair (.int .i64) .unit)))).2)),()),(((w6 (t1 + (1:Int))),()),((t5,()),(((w6 (t6 + (1:Int))),()),())))) else none) else none) else kx ((t0,()),((t1,()),((t5,()),((t6,()),())))))
def ru110_5 (F:Nat) (s:ShVal sh110_5) (kx:ShVal sh110_5->Option R110):Option R110:=iter (fun s k => st110_5 F s k kx) F s
abbrev ls110_5 (F:Nat):LS R110:=⟨sh110_5,2,ru110_5 F⟩
abbrev sh110_2:Shape:=[(0,vr 135 term 1 false),(1,vv i64),(5,vv i64)]
def st110_2 (F:Nat) (s:ShVal sh110_2) (k kx:ShVal sh110_2->Option R110):Option R110 :=
  match s with
  | ((t0,_),(t1,_),(t5,_),_) => (bif decide ((List.length t0) ≤ 9223372036854775807) then (bif decide (t5 < (Int.ofNat (List.length t0))) then (ru110_5 F ((t0,()),((t1,()),((t5,()),(((0:Int),()),())))) (fun s' => match s' with | ((t0,_),(t1,_),(t5,_),(t6,_),_) => (bif ib t5 (Int.ofNat (List.length t0)) then k (((List.set t0 (tn t5) ((List.getD t0 (tn t5) (Ty.dflt (.pair (.arr 3 (.int .u8)) (.pair (.int .i64) .unit)))).1,(t1,(List.getD t0 (tn t5) (Ty.dflt (.pair (.arr 3 (.int .u8)) (.pair (.int .i64) .unit)))).2.2))),()),(((w6 (t1 + (1:Int))),()),(((w6 (t5 + (1:Int))),()),()))) else none))) else kx ((t0,()),((t1,()),((t5,()),())))) else none)
def ru110_2 (F:Nat) (s:ShVal sh110_2) (kx:ShVal sh110_2->Option R110):Option R110:=iter (fun s k => st110_2 F s k kx) F s
abbrev ls110_2 (F:Nat):LS R110:=⟨sh110_2,0,ru110_2 F⟩
def fn110 (F:Nat) (x:Args [.v (.slice 135 term),.v i64]):Option R110 :=
  match x with
  | (x0,x1,_) => (ru110_2 F ((x0,()),((x1,()),(((0:Int),()),()))) (fun s' => match s' with | ((t0,_),(t1,_),(t5,_),_) => (some (t0,(t1,())))))
theorem ev110_5 (F:Nat) (s:ShVal sh110_5) (k kx:ShVal sh110_5->Option R110):evL TT (ct110 ) kp110 [] (loopOf Tryz.f110 5) (envOf sh110_5 s) (fitK sh110_5 k) (fun j e => bif Nat.beq j 2 then fitK sh110_5 kx e else none) kr110 = st110_5 F s k kx:=by
  obtain ⟨⟨t0,_⟩,⟨t1,_⟩,⟨t5,_⟩,⟨t6,_⟩,_⟩:=s
  kernel_rfl
theorem ok110_5 (F:Nat) (hK:KOK Tryz.prog (ct110 )) (v0:Value):LSOK Tryz.prog ⟨35,true,v0⟩ (ls110_5 F) (loopOf Tryz.f110 5) kr110 :=
  loop_ok (st110_5 F) mixed tt_ok hK (by kernel_rfl) (LTOK_by (l:=[]) (by kernel_rfl) trivial) (ev110_5 F)
theorem ev110_2 (F:Nat) (s:ShVal sh110_2) (k kx:ShVal sh110_2->Option R110):evL TT (ct110 ) kp110 [(5,ls110_5 F)] (loopOf Tryz.f110 2) (envOf sh110_2 s) (fitK sh110_2 k) (fun j e => bif Nat.beq j 0 then fitK sh110_2 kx e else none) kr110 = st110_2 F s k kx:=by
  obtain ⟨⟨t0,_⟩,⟨t1,_⟩,⟨t5,_⟩,_⟩:=s
  kernel_rfl
theorem ok110_2 (F:Nat) (hK:KOK Tryz.prog (ct110 )) (v0:Value):LSOK Tryz.prog ⟨35,true,v0⟩ (ls110_2 F) (loopOf Tryz.f110 2) kr110 :=
  loop_ok (st110_2 F) mixed tt_ok hK (by kernel_rfl) (LTOK_by (l:=[loopOf Tryz.f110 5]) (by kernel_rfl) ⟨ls_at (by kernel_rfl) (ok110_5 F hK v0),trivial⟩) (ev110_2 F)
theorem ev110 (F:Nat) (x:Args [.v (.slice 135 term),.v i64]):fnM TT (ct110 ) kp110 135 term [(2,ls110_2 F)] (bodyOf Tryz.f110) [.tmp 4] x = fn110 F x:=by
  obtain ⟨x0,x1,_⟩:=x
  kernel_rfl
theorem ok110 (hK:KOK Tryz.prog (ct110 )) (cf:G110) (h:∀ x y,cf x = some y->∃ F,fn110 F x = some y):KOne Tryz.prog 110 ⟨[.v (.slice 135 term),.v i64],[(.slice 135 term),i64],false,false,1,cf⟩ :=
  fnM_one rfl (c:=bodyOf Tryz.f110) mixed tt_ok hK Tryz.func110 (by kernel_rfl) (by kernel_rfl) (Nat.le_of_ble_eq_true (by kernel_rfl)) (by decide) fun x y hxy => by
    obtain ⟨F,hF⟩:=h x y hxy
    exact ⟨[(2,ls110_2 F)],fun v0 => LTOK_by (l:=[loopOf Tryz.f110 2]) (by kernel_rfl) ⟨ls_at (by kernel_rfl) (ok110_2 F hK v0),trivial⟩,(ev110 F x).trans hF⟩
abbrev R54:Type:=Ress [poly,i64]
abbrev G54:Type:=Args [.v poly,.v i64]->Option R54
abbrev kp54:List (Nat × List Nat):=[(0,[2,1,0]),(1,[1,0]),(2,[4,0])]
abbrev ct54 (g110:G110):CTab:=[(110,⟨[.v (.slice 135 term),.v i64],[(.slice 135 term),i64],false,false,1,g110⟩)]
def fn54 (g110:G110) (F:Nat) (x:Args [.v poly,.v i64]):Option R54 :=
  match x with
  | (x0,x1,_) => (match (g110 (x0.2.2.1,(x1,()))) with | some r5 => (some ((x0.1,(x0.2.1,((bif ((Nat.beq 135 135) && (((Nat.beq 3 3) && true) && (true && true))) then r5.1 else []),()))),(r5.2.1,()))) | none => none)
theorem ev54 (g110:G110) (F:Nat) (x:Args [.v poly,.v i64]):fnS TT (ct54 g110 ) kp54 poly [] (bodyOf Tryz.f54) [.tmp 4] x = fn54 g110 F x:=by
  obtain ⟨x0,x1,_⟩:=x
  kernel_rfl
theorem ok54 (g110:G110) (hK:KOK Tryz.prog (ct54 g110 )) (cf:G54) (h:∀ x y,cf x = some y->∃ F,fn54 g110 F x = some y):KOne Tryz.prog 54 ⟨[.v poly,.v i64],[poly,i64],false,false,1,cf⟩ :=
  fnS_one (c:=bodyOf Tryz.f54) mixed tt_ok hK Tryz.func54 (by kernel_rfl) (by kernel_rfl) (Nat.le_of_ble_eq_true (by kernel_rfl)) (by decide) fun x y hxy => by
    obtain ⟨F,hF⟩:=h x y hxy
    exact ⟨[],fun v0 => LTOK_by (l:=[]) (by kernel_rfl) trivial,(ev54 g110 F x).trans hF⟩
theorem iter_s {S α : Type} {step:S->(S->Option α)->Option α} {f:Nat} {s:S}:iter step (f + 1) s = step s (iter step f):=rfl
def cf171:G227:=fun x => if x.1 = x.2.1 then some (true,()) else none
theorem k171:KOne Tryz.prog 227 ⟨[.v ex,.v ex],[.bool],false,false,0,cf171⟩:=ok227 .nil cf171 fun x y h => by
  obtain ⟨a,b,_⟩:=x
  simp only [cf171] at h
  split at h
  · rename_i hc
    injection h with h; subst h
    replace hc:a = b:=hc
    subst hc
    obtain ⟨a0,a1,a2,_⟩:=a
    refine ⟨4,?_⟩
    have e:∀ x:Int,(!decide (x = x)) = false:=fun x => by simp
    show (bif !decide (a0 = a0) then _ else bif !decide (a1 = a1) then _ else bif !decide (a2 = a2) then _ else _) = _
    rw [e,e,e]; rfl
  · cases h
def cf144:G178:=fun x => if x.1.1 = x.2.1.1 ∧ x.1.2.1 = x.2.1.2.1 then some (true,()) else none
theorem k144:KOne Tryz.prog 178 ⟨[.v term,.v term],[.bool],false,false,0,cf144⟩:=ok178 _ (.cons k171 .nil) cf144 fun x y h => by
  obtain ⟨a,b,_⟩:=x
  simp only [cf144] at h
  split at h
  · rename_i hc
    injection h with h; subst h
    have g:cf171 (a.1,b.1,()) = some (true,()):=if_pos hc.1
    refine ⟨0,?_⟩
    simp only [fn178,g,Bool.not_true,cond_false]
    rw [show decide (a.2.1 = b.2.1) = true from decide_eq_true hc.2]; rfl
  · cases h
theorem run92 {ts:List term.den} (h:ts.length ≤ 2000000) {F0:Nat}:∀ (r pre:List term.den) (F:Nat),r.length < F->pre ++ r = ts →
    iter (fun s k => st99_4 cf144 F0 s k (fun s' => match s' with | ((t0,_),(t1,_),(t5,_),_) => (some (true,())))) F ((ts,()),((ts,()),(((pre.length:Int),()),()))) = some (true,())
  | [],pre,F,hF,hl => by
    obtain ⟨F,rfl⟩:∃ f,F = f + 1:=⟨F - 1,by simp at hF; omega⟩
    have hlen:pre.length = ts.length:=by rw [← hl]; simp
    simp only [iter,st99_4]
    simp (disch:=omega) only [dln_t,cond_true,ofn,dlt_f,cond_false]
  | t :: r,pre,F,hF,hl => by
    obtain ⟨F,rfl⟩:∃ f,F = f + 1:=⟨F - 1,by simp at hF; omega⟩
    have hpl:pre.length < ts.length:=by rw [← hl]; simp
    have wi:w6 ((pre.length:Int) + 1) = ((pre ++ [t]).length:Int):=by rw [w6_i (by omega) (by omega)]; simp
    have ih:=run92 h (F0:=F0) r (pre ++ [t]) F (by simp at hF; omega) (by simpa using hl)
    rw [← wi] at ih
    simp only [iter]
    generalize iter (fun s k => st99_4 cf144 F0 s k (fun s' => match s' with | ((t0,_),(t1,_),(t5,_),_) => (some (true,())))) F = K at ih ⊢
    simp only [st99_4]
    have g:∀ z:term.den,cf144 (z,z,()) = some (true,()):=fun z => if_pos ⟨rfl,rfl⟩
    simp (disch:=omega) only [dln_t,cond_true,ofn,dlt_t,ib_t,tn_cast,g,Bool.not_true,cond_false]
    exact ih
def cf92:G99:=fun x => if (show List term.den from x.1) = x.2.1 ∧ (show List term.den from x.1).length ≤ 2000000 then some (true,()) else none
theorem k92:KOne Tryz.prog 99 ⟨[.v (.slice 135 term),.v (.slice 135 term)],[.bool],false,false,0,cf92⟩:=ok99 _ (.cons k144 .nil) cf92 fun x y h => by
  obtain ⟨a,b,_⟩:=x
  simp only [cf92] at h
  split at h
  · rename_i hc
    injection h with h; subst h
    obtain ⟨e,hl⟩:=hc
    replace e:a = b:=e
    replace hl:List.length a ≤ 2000000:=hl
    subst e
    refine ⟨List.length a + 1,?_⟩
    show (bif decide (List.length a ≤ _) then (bif decide (List.length a ≤ _) then (bif (!decide ((List.length a:Int) = (List.length a:Int))) then _ else _) else none) else none) = _
    rw [dln_t (by omega),cond_true,cond_true,deq_t rfl]
    exact run92 hl (F0:=List.length a + 1) a [] (List.length a + 1) (by omega) rfl
  · cases h
def cf39:G30:=fun x => if x.1.1 = x.2.1.1 ∧ x.1.2.1 = x.2.1.2.1 ∧ (show List term.den from x.1.2.2.1) = x.2.1.2.2.1 ∧ (show List term.den from x.1.2.2.1).length ≤ 2000000 then some (true,()) else none
theorem k39:KOne Tryz.prog 30 ⟨[.v poly,.v poly],[.bool],false,false,0,cf39⟩:=ok30 _ (.cons k92 .nil) cf39 fun x y h => by
  obtain ⟨⟨p,v,a,_⟩,⟨q,w,b,_⟩,_⟩:=x
  simp only [cf39] at h
  split at h
  · rename_i hc
    injection h with h; subst h
    obtain ⟨h1,h2,h3,h4⟩:=hc
    refine ⟨0,?_⟩
    have g:cf92 (a,b,()) = some (true,()):=if_pos ⟨h3,h4⟩
    show (bif (!decide (p = q)) then _ else (bif (!decide (v = w)) then _ else (match cf92 (a,b,()) with | some r7 => _ | none => none))) = _
    rw [show decide (p = q) = true from decide_eq_true h1,show decide (v = w) = true from decide_eq_true h2,g]; rfl
  · cases h
theorem g39b_ok {p v:Int} {a:List term.den} (h:a.length ≤ 2000000):cf39 ((p,v,a,()),(p,v,a,()),()) = some (true,()):=if_pos ⟨rfl,rfl,rfl,h⟩
theorem g39_ok {p v:Int} {a:List term.den} (h:a.length ≤ 1000000):cf39 ((p,v,a,()),(p,v,a,()),()) = some (true,()):=g39b_ok (Nat.le_trans h (by omega))
theorem e40 (k:Int):k + 4 * ((0:Nat):Int) = k:=by omega
def mkOne (k:Int):term.den:=((w8 k,w8 (k + 1),w8 (k + 2),()),k + 3,())
def mkT (k:Int):Nat->List term.den
  | 0 => []
  | n + 1 => mkOne k :: mkT (k + 4) n
theorem mkT_len:∀ (n:Nat) (k:Int),(mkT k n).length = n
  | 0,_ => rfl
  | n + 1,k => by simp [mkT,mkT_len n]
theorem mkT_snoc:∀ (n:Nat) (k:Int),mkT k (n + 1) = mkT k n ++ [mkOne (k + 4 * (n:Int))]
  | 0,k => by simp [mkT]
  | n + 1,k => by
    show mkOne k :: mkT (k + 4) (n + 1) = _
    rw [mkT_snoc n (k + 4)]
    simp only [mkT,List.cons_append]
    rw [show k + 4 + 4 * (n:Int) = k + 4 * ((n + 1:Nat):Int) by omega]
theorem set_at {α : Type} {pre r:List α} {t x : α}:(pre ++ t :: r).set pre.length x = pre ++ x :: r:=by
  induction pre with
  | nil => rfl
  | cons a p ih => simp [ih]
theorem in70 {k:Int} (hk : 0 ≤ k ∧ k ≤ 100000000000) {pre r:List term.den} {t:term.den} (hl:(pre ++ t :: r).length ≤ 2000000) {F0 F:Nat} (hF : 4 ≤ F) {kx:ShVal sh110_5->Option R110} :
    iter (fun s k => st110_5 F0 s k kx) F ((pre ++ t :: r,()),((k,()),(((pre.length:Int),()),(((0:Int),()),())))) = kx ((pre ++ (((w8 k,w8 (k + 1),w8 (k + 2),()):ex.den),t.2) :: r,()),((k + 3,()),(((pre.length:Int),()),(((3:Int),()),())))):=by
  obtain ⟨F,rfl⟩:∃ f,F = f + 4:=⟨F - 4,by omega⟩
  have hpl:pre.length < (pre ++ t :: r).length:=by simp
  have hlen:∀ z:term.den,(pre ++ z :: r).length = (pre ++ t :: r).length:=fun z => by simp
  have a1:w6 (k + 1) = k + 1:=w6_i (by omega) (by omega)
  have a2:w6 (k + 1 + 1) = k + 2:=by rw [w6_i (by omega) (by omega)]; omega
  have a3:w6 (k + 2 + 1) = k + 3:=by rw [w6_i (by omega) (by omega)]; omega
  have b1:w6 ((0:Int) + 1) = 1:=rfl
  have b2:w6 ((1:Int) + 1) = 2:=rfl
  have b3:w6 ((2:Int) + 1) = 3:=rfl
  have c0:decide ((0:Int) < 3) = true:=rfl
  have c1:decide ((1:Int) < 3) = true:=rfl
  have c2:decide ((2:Int) < 3) = true:=rfl
  have c3:decide ((3:Int) < 3) = false:=rfl
  have d0:ib (0:Int) (Int.ofNat 3) = true:=rfl
  have d1:ib (1:Int) (Int.ofNat 3) = true:=rfl
  have d2:ib (2:Int) (Int.ofNat 3) = true:=rfl
  obtain ⟨⟨u0,u1,u2,u3⟩,tv⟩:=t
  have step:∀ (z:term.den) (kk j:Int) (K:ShVal sh110_5->Option R110),decide (j < 3) = true->ib j (Int.ofNat 3) = true->st110_5 F0 ((pre ++ z :: r,()),((kk,()),(((pre.length:Int),()),((j,()),())))) K kx =
      K ((pre ++ ((tset (w8 kk) 3 z.1 (tn j)),z.2) :: r,()),((w6 (kk + 1),()),(((pre.length:Int),()),((w6 (j + 1),()),())))):=fun z kk j K h1 h2 => by
    have e0:ib (pre.length:Int) ((pre ++ z :: r).length:Int) = true:=ib_t (by omega) (by rw [hlen z]; omega)
    simp only [st110_5,h1,cond_true,ofn,e0,h2,tn_cast,getD_pre,set_at]
    rw [show ib j ((3:Nat):Int) = true from h2]; rfl
  rw [show F + 4 = (F + 3) + 1 by omega,iter_s,step _ _ _ _ c0 d0,a1,b1,show F + 3 = (F + 2) + 1 by omega,iter_s,step _ _ _ _ c1 d1,a2,b2,show F + 2 = (F + 1) + 1 by omega,iter_s,step _ _ _ _ c2 d2,a3,b3,iter_s]
  simp only [st110_5,c3,cond_false]
  rfl
theorem run70 {k0:Int} (hk : 0 ≤ k0 ∧ k0 ≤ 10000000000) {F0:Nat} (hF0 : 4 ≤ F0):∀ (r:List term.den) (n F:Nat),r.length < F->n + r.length ≤ 2000000 →
    iter (fun s k => st110_2 F0 s k (fun s' => match s' with | ((t0,_),(t1,_),(t5,_),_) => (some (t0,(t1,()))))) F ((mkT k0 n ++ r,()),((k0 + 4 * (n:Int),()),(((n:Int),()),()))) = some (mkT k0 (n + r.length),k0 + 4 * ((n + r.length:Nat):Int),())
  | [],n,F,hF,hl => by
    obtain ⟨F,rfl⟩:∃ f,F = f + 1:=⟨F - 1,by simp at hF; omega⟩
    have hm:=mkT_len n k0
    rw [List.append_nil]
    simp only [List.length_nil,Nat.add_zero]
    generalize mkT k0 n = M at hm ⊢
    simp only [iter,st110_2]
    simp (disch:=omega) only [dln_t,cond_true,ofn,dlt_f,cond_false]
  | t :: r,n,F,hF,hl => by
    obtain ⟨F,rfl⟩:∃ f,F = f + 1:=⟨F - 1,by simp at hF; omega⟩
    have hm:=mkT_len n k0
    simp only [List.length_cons] at hl
    have hl2:(mkT k0 n ++ t :: r).length ≤ 2000000:=by simp [hm]; omega
    have hpl:n < (mkT k0 n ++ t :: r).length:=by simp [hm]
    have wi:w6 ((n:Int) + 1) = ((n + 1:Nat):Int):=by rw [w6_i (by omega) (by omega)]; omega
    have wk:w6 (k0 + 4 * (n:Int) + 3 + 1) = k0 + 4 * ((n + 1:Nat):Int):=by rw [w6_i (by omega) (by omega)]; omega
    have ih:=run70 hk hF0 r (n + 1) F (by simp at hF; omega) (by omega)
    rw [mkT_snoc,List.append_assoc] at ih
    simp only [List.cons_append,List.nil_append] at ih
    rw [show n + (t :: r).length = n + 1 + r.length by simp; omega]
    simp only [iter]
    generalize iter (fun s k => st110_2 F0 s k (fun s' => match s' with | ((t0,_),(t1,_),(t5,_),_) => (some (t0,(t1,()))))) F = K at ih ⊢
    have key:=in70 (k:=k0 + 4 * (n:Int)) (by omega) (pre:=mkT k0 n) (r:=r) (t:=t) hl2 (F0:=F0) (F:=F0) hF0 (kx:=fun s' => match s' with | ((t0,_),(t1,_),(t5,_),(t6,_),_) => (bif ib t5 (Int.ofNat (List.length t0)) then K ((((List.set t0 (tn t5) ((List.getD t0 (tn t5) (Ty.dflt (.pair (.arr 3 (.int .u8)) (.pair (.int .i64) .unit)))).1,(t1,(List.getD t0 (tn t5) (Ty.dflt (.pair (.arr 3 (.int .u8)) (.pair (.int .i64) .unit)))).2.2))),()),(((w6 (t1 + (1:Int))),()),(((w6 (t5 + (1:Int))),()),())))) else none))
    rw [hm] at key
    simp only [st110_2]
    rw [dln_t (by omega),cond_true,ofn,dlt_t (by omega),cond_true]
    refine key.trans ?_
    have e0:∀ z:term.den,ib (n:Int) ((mkT k0 n ++ z :: r).length:Int) = true:=fun z => ib_t (by omega) (by simp [hm]; omega)
    have e1:∀ z d:term.den,(mkT k0 n ++ z :: r).getD n d = z:=fun z d => by
      have:=getD_pre (pre:=mkT k0 n) (r:=r) (t:=z) (d:=d)
      rwa [hm] at this
    have e2:∀ z x:term.den,(mkT k0 n ++ z :: r).set n x = mkT k0 n ++ x :: r:=fun z x => by
      have:=set_at (pre:=mkT k0 n) (r:=r) (t:=z) (x:=x)
      rwa [hm] at this
    simp only [ofn,e0,cond_true,tn_cast,e1,e2,wi,wk]
    exact ih
def cf70:G110:=fun x => if (show List term.den from x.1).length ≤ 2000000 ∧ 0 ≤ x.2.1 ∧ x.2.1 ≤ (10000000000:Int) then some (mkT x.2.1 (show List term.den from x.1).length,x.2.1 + 4 * ((show List term.den from x.1).length:Int),()) else none
theorem k70:KOne Tryz.prog 110 ⟨[.v (.slice 135 term),.v i64],[.slice 135 term,i64],false,false,1,cf70⟩:=ok110 .nil cf70 fun x y h => by
  obtain ⟨a,k,_⟩:=x
  simp only [cf70] at h
  split at h
  · rename_i hc
    injection h with h; subst h
    obtain ⟨h1,h2⟩:=hc
    replace h1:List.length a ≤ 2000000:=h1
    refine ⟨List.length a + 4,?_⟩
    have:=run70 (k0:=k) h2 (F0:=List.length a + 4) (by omega) a 0 (List.length a + 4) (by omega) (by omega)
    simp only [Nat.zero_add] at this
    rw [e40 k] at this
    exact this
  · cases h
def cf40:G54:=fun x => if (show List term.den from x.1.2.2.1).length ≤ 2000000 ∧ 0 ≤ x.2.1 ∧ x.2.1 ≤ (10000000000:Int) then some ((x.1.1,x.1.2.1,mkT x.2.1 (show List term.den from x.1.2.2.1).length,()),x.2.1 + 4 * ((show List term.den from x.1.2.2.1).length:Int),()) else none
theorem k40:KOne Tryz.prog 54 ⟨[.v poly,.v i64],[poly,i64],false,false,1,cf40⟩:=ok54 _ (.cons k70 .nil) cf40 fun x y h => by
  obtain ⟨⟨p,v,a,_⟩,k,_⟩:=x
  simp only [cf40] at h
  split at h
  · rename_i hc
    injection h with h; subst h
    refine ⟨0,?_⟩
    have g:cf70 (a,k,()) = some (mkT k (List.length a),k + 4 * (List.length a:Int),()):=if_pos hc
    show (match cf70 (a,k,()) with | some r5 => _ | none => none) = _
    rw [g]; rfl
  · cases h
theorem g40b_ok {p v k:Int} {a:List term.den} (h:a.length ≤ 2000000) (hk : 0 ≤ k ∧ k ≤ 10000000000):cf40 ((p,v,a,()),k,()) = some ((p,v,mkT k a.length,()),k + 4 * (a.length:Int),()):=if_pos ⟨h,hk⟩
theorem g40_ok {p v k:Int} {a:List term.den} (h:a.length ≤ 1000000) (hk : 0 ≤ k ∧ k ≤ 10000000000):cf40 ((p,v,a,()),k,()) = some ((p,v,mkT k a.length,()),k + 4 * (a.length:Int),()):=g40b_ok (Nat.le_trans h (by omega)) hk
theorem in93 {k:Int} (hk : 0 ≤ k ∧ k ≤ 100000000000) {ts:List term.den} {i:Nat} {v:Int × Unit} (hi:i < ts.length) (hl:ts.length ≤ 2000000) (e:ts.getD i (Ty.dflt term) = (((w8 k,w8 (k + 1),w8 (k + 2),()):ex.den),v)) {F0 F:Nat} (hF : 4 ≤ F) {kx:ShVal sh116_5->Option R116} :
    iter (fun s k => st116_5 F0 s k kx) F ((ts,()),((k,()),(((i:Int),()),(((0:Int),()),())))) = kx ((ts,()),((k + 3,()),(((i:Int),()),(((3:Int),()),())))):=by
  obtain ⟨F,rfl⟩:∃ f,F = f + 4:=⟨F - 4,by omega⟩
  have a1:w6 (k + 1) = k + 1:=w6_i (by omega) (by omega)
  have a2:w6 (k + 1 + 1) = k + 2:=by rw [w6_i (by omega) (by omega)]; omega
  have a3:w6 (k + 2 + 1) = k + 3:=by rw [w6_i (by omega) (by omega)]; omega
  have b1:w6 ((0:Int) + 1) = 1:=rfl
  have b2:w6 ((1:Int) + 1) = 2:=rfl
  have b3:w6 ((2:Int) + 1) = 3:=rfl
  have c3:decide ((3:Int) < 3) = false:=rfl
  have step:∀ (kk j:Int) (K:ShVal sh116_5->Option R116),decide (j < 3) = true->ib j (3:Int) = true->tget (0:Int) 3 (ts.getD i (Ty.dflt term)).1 (tn j) = w8 kk->st116_5 F0 ((ts,()),((kk,()),(((i:Int),()),((j,()),())))) K kx =
      K ((ts,()),((w6 (kk + 1),()),(((i:Int),()),((w6 (j + 1),()),())))):=fun kk j K h1 h2 h3 => by
    have e0:ib (i:Int) (ts.length:Int) = true:=ib_t (by omega) (by omega)
    simp only [st116_5,h1,cond_true,ofn,e0,tn_cast]
    rw [show ib j ((3:Nat):Int) = true from h2]
    show (bif !decide (tget (0:Int) 3 (ts.getD i (Ty.dflt term)).1 (tn j) = w8 kk) then _ else _) = _
    rw [h3,deq_t rfl]; rfl
  have t0:tget (0:Int) 3 (ts.getD i (Ty.dflt term)).1 (tn 0) = w8 k:=by rw [e]; rfl
  have t1:tget (0:Int) 3 (ts.getD i (Ty.dflt term)).1 (tn 1) = w8 (k + 1):=by rw [e]; rfl
  have t2:tget (0:Int) 3 (ts.getD i (Ty.dflt term)).1 (tn 2) = w8 (k + 2):=by rw [e]; rfl
  rw [show F + 4 = (F + 3) + 1 by omega,iter_s,step _ _ _ rfl rfl t0,a1,b1,show F + 3 = (F + 2) + 1 by omega,iter_s,step _ _ _ rfl rfl t1,a2,b2,show F + 2 = (F + 1) + 1 by omega,iter_s,step _ _ _ rfl rfl t2,a3,b3,iter_s]
  simp only [st116_5,c3,cond_false]
theorem mkT_get:∀ {n i:Nat} {k:Int} {d:term.den},i < n->(mkT k n).getD i d = mkOne (k + 4 * (i:Int))
  | n + 1,0,k,d,_ => by simp [mkT]
  | n + 1,i + 1,k,d,h => by
    show (mkT (k + 4) n).getD i d = _
    rw [mkT_get (n:=n) (by omega),show k + 4 + 4 * (i:Int) = k + 4 * ((i + 1:Nat):Int) by omega]
theorem run93 {k0:Int} {n:Nat} (hk : 0 ≤ k0 ∧ k0 ≤ 10000000000) (hn:n ≤ 2000000) {F0:Nat} (hF0 : 4 ≤ F0):∀ (m i F:Nat),m < F->i + m = n →
    iter (fun s k => st116_2 F0 s k (fun s' => match s' with | ((t0,_),(t1,_),(t5,_),_) => (some (t1,())))) F ((mkT k0 n,()),((k0 + 4 * (i:Int),()),(((i:Int),()),()))) = some (k0 + 4 * (n:Int),())
  | 0,i,F,hF,hl => by
    obtain ⟨F,rfl⟩:∃ f,F = f + 1:=⟨F - 1,by omega⟩
    have hm:=mkT_len n k0
    obtain rfl:i = n:=by omega
    generalize mkT k0 i = M at hm ⊢
    simp only [iter,st116_2]
    simp (disch:=omega) only [dln_t,cond_true,ofn,dlt_f,cond_false]
  | m + 1,i,F,hF,hl => by
    obtain ⟨F,rfl⟩:∃ f,F = f + 1:=⟨F - 1,by omega⟩
    have hm:=mkT_len n k0
    have hg:(mkT k0 n).getD i (Ty.dflt term) = mkOne (k0 + 4 * (i:Int)):=mkT_get (by omega)
    have wi:w6 ((i:Int) + 1) = ((i + 1:Nat):Int):=by rw [w6_i (by omega) (by omega)]; omega
    have wk:w6 (k0 + 4 * (i:Int) + 3 + 1) = k0 + 4 * ((i + 1:Nat):Int):=by rw [w6_i (by omega) (by omega)]; omega
    have ih:=run93 hk hn hF0 m (i + 1) F (by omega) (by omega)
    simp only [iter]
    generalize iter (fun s k => st116_2 F0 s k (fun s' => match s' with | ((t0,_),(t1,_),(t5,_),_) => (some (t1,())))) F = K at ih ⊢
    have key:=in93 (k:=k0 + 4 * (i:Int)) (by omega) (ts:=mkT k0 n) (i:=i) (by omega) (by omega) hg (F0:=F0) (F:=F0) hF0 (kx:=fun s' => match s' with | ((t0,_),(t1,_),(t5,_),(t6,_),_) => (bif ib t5 (Int.ofNat (List.length t0)) then (bif (!decide ((List.getD t0 (tn t5) (Ty.dflt (.pair (.arr 3 (.int .u8)) (.pair (.int .i64) .unit)))).2.1 = t1)) then (some ((-(1:Int)),())) else K ((t0,()),(((w6 (t1 + (1:Int))),()),(((w6 (t5 + (1:Int))),()),())))) else none))
    simp only [st116_2]
    rw [dln_t (by omega),cond_true,ofn,dlt_t (by omega),cond_true]
    refine key.trans ?_
    have e0:ib (i:Int) ((mkT k0 n).length:Int) = true:=ib_t (by omega) (by omega)
    have e3:decide ((List.getD (mkT k0 n) i (Ty.dflt (.pair (.arr 3 (.int .u8)) (.pair (.int .i64) .unit)))).2.1 = k0 + 4 * (i:Int) + 3) = true:=by
      rw [show List.getD (mkT k0 n) i (Ty.dflt (.pair (.arr 3 (.int .u8)) (.pair (.int .i64) .unit))) = mkOne (k0 + 4 * (i:Int)) from hg]
      exact decide_eq_true rfl
    simp only [ofn,e0,cond_true,tn_cast,e3,Bool.not_true,cond_false,wi,wk]
    exact ih
open Classical in
noncomputable def cf93:G116:=fun x => if x.1 = mkT x.2.1 (show List term.den from x.1).length ∧ (show List term.den from x.1).length ≤ 2000000 ∧ 0 ≤ x.2.1 ∧ x.2.1 ≤ (10000000000:Int) then some (x.2.1 + 4 * ((show List term.den from x.1).length:Int),()) else none
theorem k93:KOne Tryz.prog 116 ⟨[.v (.slice 135 term),.v i64],[i64],false,false,0,cf93⟩:=ok116 .nil cf93 fun x y h => by
  obtain ⟨a,k,_⟩:=x
  simp only [cf93] at h
  split at h
  · rename_i hc
    injection h with h; subst h
    obtain ⟨h1,h2,h3⟩:=hc
    replace h1:a = mkT k (List.length a):=h1
    replace h2:List.length a ≤ 2000000:=h2
    refine ⟨List.length a + 4,?_⟩
    have:=run93 (k0:=k) (n:=List.length a) h3 h2 (F0:=List.length a + 4) (by omega) (List.length a) 0 (List.length a + 4) (by omega) (by omega)
    rw [← h1] at this
    rw [e40 k] at this
    exact this
  · cases h
noncomputable def cf41:G55:=fn55 cf93 0
theorem k41:KOne Tryz.prog 55 ⟨[.v poly,.v i64],[i64],false,false,0,cf41⟩:=ok55 _ (.cons k93 .nil) cf41 fun x y h => ⟨0,h⟩
theorem g41b_ok {p v k:Int} {n:Nat} (h:n ≤ 2000000) (hk : 0 ≤ k ∧ k ≤ 10000000000):cf41 ((p,v,mkT k n,()),k,()) = some (k + 4 * (n:Int),()):=by
  have g:cf93 (mkT k n,k,()) = some (k + 4 * (n:Int),()):=by
    have hl:=mkT_len n k
    have:cf93 (mkT k n,k,()) = some (k + 4 * ((mkT k n).length:Int),()):=if_pos ⟨by show mkT k n = mkT k (mkT k n).length; rw [hl],by show (mkT k n).length ≤ 2000000; omega,hk⟩
    rw [this,hl]
  show (match cf93 (mkT k n,k,()) with | some r5 => (bif decide (r5.1 < (0:Int)) then (some ((-(1:Int)),())) else (some (r5.1,()))) | none => none) = _
  rw [g]
  simp (disch:=omega) only [dlt_f,cond_false]
theorem g41_ok {p v k:Int} {n:Nat} (h:n ≤ 1000000) (hk : 0 ≤ k ∧ k ≤ 10000000000):cf41 ((p,v,mkT k n,()),k,()) = some (k + 4 * (n:Int),()):=g41b_ok (Nat.le_trans h (by omega)) hk
theorem split_len {a b:List Int} {i:Nat} (h:a.length = b.length) (hi:i ≤ a.length):(a.take i ++ b.drop i).length = a.length:=by simp; omega
theorem split_get {a b:List Int} {i:Nat} (h:a.length = b.length) (hi:i < a.length):(a.take i ++ b.drop i).getD i 0 = el b i:=by
  simp only [el,List.getD_eq_getElem?_getD]
  rw [List.getElem?_append_right (by simp; omega),List.length_take,Nat.min_eq_left (by omega),List.getElem?_drop]
  simp
theorem split_set {a b:List Int} {i:Nat} (h:a.length = b.length) (hi:i < a.length):(a.take i ++ b.drop i).set i (el a i) = a.take (i + 1) ++ b.drop (i + 1):=by
  rw [take_snoc hi,← el_get hi,List.set_append_right _ _ (by simp; omega)]
  rw [List.length_take,Nat.min_eq_left (by omega),Nat.sub_self,List.append_assoc]
  congr 1
  rw [List.drop_eq_getElem_cons (show i < b.length by omega)]
  rfl
theorem scale_loop {p c:Int} {m:Nat} {own:List Int} (hp : 2 ≤ p ∧ p ≤ 13) (hc : 0 ≤ c ∧ c < p) (h1:Can p m own) (hm:m ≤ 1000000) {F0 F:Nat} (hF:m < F) {rows out:List (List Int)} {i at_:Int} {kx:ShVal sh85_10->Option R85} :
    iter (fun s k => st85_10 cf153 cf75 cf154 cf152 F0 s k kx) F ((p,()),((rows,()),((out,()),((i,()),((own,()),((at_,()),((c,()),(((0:Int),()),())))))))) =
      kx ((p,()),((rows,()),((out,()),((i,()),((scl p c own,()),((at_,()),((c,()),((((m:Nat):Int),()),())))))))):=by
  have hl:(scl p c own).length = own.length:=scl_len
  have lw:=h1.len
  have key:=iter_run (step:=fun s k => st85_10 cf153 cf75 cf154 cf152 F0 s k kx) (r:=kx ((p,()),((rows,()),((out,()),((i,()),((scl p c own,()),((at_,()),((c,()),((((m:Nat):Int),()),())))))))))
    m F (fun j => ((p,()),((rows,()),((out,()),((i,()),((((scl p c own).take j ++ own.drop j),()),((at_,()),((c,()),(((j:Int),()),()))))))))) hF (fun j hj k => ?_) (fun k => ?_)
  · simpa using key
  · have l1:=split_len (i:=j) hl (by omega)
    have g1:=split_get (i:=j) hl (by omega)
    have s1:=split_set (i:=j) hl (by omega)
    have z:=h1.rng j
    have z2:=sq_rng (p:=p) (by omega) z.1 z.2 hc.1 hc.2
    have e:Int.tmod (el own j * c) p = el (scl p c own) j:=by rw [Int.tmod_eq_emod_of_nonneg z2.1,el_scl]
    rw [← s1]
    generalize (scl p c own).take j ++ own.drop j = L at *
    simp (disch:=omega) only [st85_10,dln_t,cond_true,ofn,dlt_t,ib_t,tn_cast,deq_f,Bool.not_false,g1,e,w6_id]
    rfl
  · rw [show (scl p c own).take m ++ own.drop m = scl p c own by rw [← lw,List.drop_length,List.append_nil,← hl,List.take_length]]
    simp (disch:=omega) only [st85_10,dln_t,cond_true,ofn,dlt_f,cond_false]
def anyG (at_:Nat) (L:List (List Int)):Bool:=L.any fun o => decide (at_ < ld o)
def nextL (p:Int) (own:List Int) (at_:Nat) (L:List (List Int)):List (List Int):=bif anyG at_ L then ins p own at_ L else L.map (red p own at_)
theorem anyG_snoc {at_:Nat} {L:List (List Int)} {o:List Int}:anyG at_ (L ++ [o]) = (anyG at_ L || decide (at_ < ld o)):=by simp [anyG]
theorem ins_none {p:Int} {own:List Int} {at_:Nat}:∀ {L:List (List Int)},anyG at_ L = false->ins p own at_ L = L.map (red p own at_) ++ [own]
  | [],_ => rfl
  | o :: os,h => by
    simp only [anyG,List.any_cons,Bool.or_eq_false_iff,decide_eq_false_iff_not] at h
    simp only [ins,if_neg h.1,List.map_cons,List.cons_append]
    rw [ins_none (L:=os) h.2]
theorem ins_put {p:Int} {own o:List Int} {at_:Nat}:∀ {L:List (List Int)},anyG at_ L = true->ins p own at_ (L ++ [o]) = ins p own at_ L ++ [red p own at_ o]
  | [],h => by simp [anyG] at h
  | x :: os,h => by
    simp only [List.cons_append,ins]
    by_cases q:at_ < ld x
    · simp [if_pos q]
    · simp only [if_neg q,List.cons_append]
      simp only [anyG,List.any_cons,decide_eq_false q,Bool.false_or] at h
      rw [ins_put (L:=os) h]
theorem ins_now {p:Int} {own o:List Int} {at_:Nat} (ho:at_ < ld o):∀ {L:List (List Int)},anyG at_ L = false->ins p own at_ (L ++ [o]) = L.map (red p own at_) ++ [own] ++ [red p own at_ o]
  | [],_ => by simp [ins,if_pos ho]
  | x :: os,h => by
    simp only [anyG,List.any_cons,Bool.or_eq_false_iff,decide_eq_false_iff_not] at h
    simp only [List.cons_append,ins,if_neg h.1,List.map_cons]
    rw [ins_now ho (L:=os) h.2]
theorem nextL_len {p:Int} {own:List Int} {at_:Nat} {L:List (List Int)}:(nextL p own at_ L).length ≤ L.length + 1:=by
  unfold nextL
  cases anyG at_ L with
  | true => simp [ins_len]
  | false => simp
theorem put_loop {p:Int} {m at_:Nat} {own:List Int} {out:List (List Int)} (hp : 2 ≤ p ∧ p ≤ 13) (w:Own p m own at_ out) (rr:RR p m out) (hm:m ≤ 1000000) (ho:out.length ≤ 1000000) {F0 F:Nat} (hF:out.length < F) {rows:List (List Int)} {i:Int} {kx:ShVal sh85_15->Option R85} :
    iter (fun s k => st85_15 cf153 cf75 cf154 cf152 F0 s k kx) F ((p,()),((rows,()),((out,()),((i,()),((own,()),(((at_:Int),()),(([],()),((false,()),(((0:Int),()),()))))))))) =
      kx ((p,()),((rows,()),((out,()),((i,()),((own,()),(((at_:Int),()),((nextL p own at_ out,()),((anyG at_ out,()),((((out.length:Nat):Int),()),()))))))))):=by
  have key:=iter_run (step:=fun s k => st85_15 cf153 cf75 cf154 cf152 F0 s k kx) (r:=kx ((p,()),((rows,()),((out,()),((i,()),((own,()),(((at_:Int),()),((nextL p own at_ out,()),((anyG at_ out,()),((((out.length:Nat):Int),()),()))))))))))
    out.length F (fun j => ((p,()),((rows,()),((out,()),((i,()),((own,()),(((at_:Int),()),((nextL p own at_ (out.take j),()),((anyG at_ (out.take j),()),(((j:Int),()),())))))))))) hF (fun j hj k => ?_) (fun k => ?_)
  · simpa [nextL,anyG] using key
  · have ho1:out.getD j [] = out[j]:=by simp [List.getD_eq_getElem?_getD,List.getElem?_eq_getElem hj]
    have hmem:out[j] ∈ out:=List.getElem_mem hj
    have co:=rr.can _ hmem
    have lo:=rr.lt _ hmem
    have l1:(nextL p own at_ (out.take j)).length ≤ 1000001:=by
      have:=nextL_len (p:=p) (own:=own) (at_:=at_) (L:=out.take j)
      simp at this; omega
    have hn:nextL p own at_ (out.take (j + 1)) = if anyG at_ (out.take j) = false ∧ at_ < ld out[j] then nextL p own at_ (out.take j) ++ [own] ++ [red p own at_ out[j]] else nextL p own at_ (out.take j) ++ [red p own at_ out[j]]:=by
      rw [take_snoc hj]
      unfold nextL
      rw [anyG_snoc]
      cases hg:anyG at_ (out.take j) with
      | true => simp only [Bool.true_or,cond_true]; rw [ins_put hg]; simp
      | false =>
        by_cases q:at_ < ld out[j]
        · rw [decide_eq_true q]; simp only [Bool.false_or,cond_true,cond_false]; rw [ins_now q hg,if_pos ⟨trivial,q⟩]
        · rw [decide_eq_false q]; simp only [Bool.false_or,cond_false]; rw [if_neg (fun h => q h.2),List.map_append]; rfl
    have hb:anyG at_ (out.take (j + 1)) = (anyG at_ (out.take j) || decide (at_ < ld out[j])):=by rw [take_snoc hj,anyG_snoc]
    rw [hn,hb]
    have g1:=g153_ok (l:=out[j]) (by rw [co.len]; exact hm)
    rw [ldI_lt co.len lo] at g1
    have g2:cf154 (p,out[j],own,out[j].getD at_ 0,()) = some (red p own at_ out[j],()):=g154_ok hp (co.rng at_) co w.can hm
    have lc:=co.len
    have lt:=w.lt
    generalize nextL p own at_ (out.take j) = N at *
    generalize anyG at_ (out.take j) = G at *
    clear hn hb
    generalize out[j] = o at *
    cases G with
    | true =>
      rw [if_neg (fun h => by cases h.1)]
      simp (disch:=omega) only [st85_15,dln_t,cond_true,ofn,dlt_t,ib_t,tn_cast,Bool.not_true,cond_false,ho1,g2,grow_t,List.length_singleton,w6_id]
      rfl
    | false =>
      by_cases q:at_ < ld o
      · rw [if_pos ⟨rfl,q⟩,decide_eq_true q]
        simp (disch:=first | omega | (simp only [List.length_append,List.length_singleton]; omega)) only [st85_15,dln_t,cond_true,ofn,dlt_t,ib_t,tn_cast,Bool.not_false,g1,ho1,g2,grow_t,List.length_singleton,w6_id]
        rfl
      · rw [if_neg (fun h => q h.2),decide_eq_false q]
        simp (disch:=omega) only [st85_15,dln_t,cond_true,ofn,dlt_t,dlt_f,cond_false,ib_t,tn_cast,Bool.not_false,g1,ho1,g2,grow_t,List.length_singleton,w6_id]
        rfl
  · rw [List.take_length]
    simp (disch:=omega) only [st85_15,dln_t,cond_true,ofn,dlt_f,cond_false]
theorem ech_snoc {p:Int} {a:List (List Int)} {r:List Int}:ech p (a ++ [r]) = stepR p (ech p a) r:=by simp [ech,List.foldl_append]
theorem stepR_len {p:Int} {out:List (List Int)} {r:List Int}:(stepR p out r).length ≤ out.length + 1:=by
  unfold stepR; split
  · omega
  · rw [ins_len]; exact Nat.le_refl _
theorem fold_len {p:Int}:∀ {rows out:List (List Int)},(rows.foldl (stepR p) out).length ≤ out.length + rows.length
  | [],out => Nat.le_refl _
  | r :: rs,out => by
    have h1:=fold_len (p:=p) (rows:=rs) (out:=stepR p out r)
    have h2:=stepR_len (p:=p) (out:=out) (r:=r)
    simp only [List.foldl_cons,List.length_cons]; omega
theorem ech_len {p:Int} {rows:List (List Int)}:(ech p rows).length ≤ rows.length:=by
  have:=fold_len (p:=p) (rows:=rows) (out:=[]); simpa [ech] using this
theorem g75_ok {p x:Int} (h:(2 ≤ p ∧ p ≤ 13) ∧ (-1000000000000 ≤ x ∧ x ≤ 1000000000000)):cf75 (p,x,()) = some (inv p x,()):=if_pos h
theorem run108 {p:Int} {m:Nat} {rows:List (List Int)} (hP:isP p = true) (hr:∀ r ∈ rows,Can p m r) (hm:m ≤ 1000000) (hn:rows.length ≤ 500000) {F:Nat} (hF:m + rows.length + 1 < F):fn85 cf153 cf75 cf154 cf152 F (p,rows,()) = some (ech p rows,()):=by
  have hp:=isP_pos hP
  simp only [fn85,ru85_3]
  have key:=iter_run (step:=fun s k => st85_3 cf153 cf75 cf154 cf152 F s k (fun s' => match s' with | ((t0,_),(t1,_),(t5,_),(t6,_),_) => (some (t5,())))) (r:=some (ech p rows,())) rows.length F (fun i => ((p,()),((rows,()),((ech p (rows.take i),()),(((i:Int),()),()))))) (by omega) (fun i hi k => ?_) (fun k => ?_)
  · simpa [ech] using key
  · have hr1:rows.getD i [] = rows[i]:=by simp [List.getD_eq_getElem?_getD,List.getElem?_eq_getElem hi]
    have cr:=hr _ (List.getElem_mem hi)
    have rr:RR p m (ech p (rows.take i)):=ech_RR hP fun r h => hr r (List.mem_of_mem_take h)
    have lo:(ech p (rows.take i)).length ≤ i:=by have:=ech_len (p:=p) (rows:=rows.take i); simp at this; omega
    rw [take_snoc hi,ech_snoc]
    generalize ech p (rows.take i) = out at *
    generalize rows[i] = r at *
    have g1:=g152_ok hp rr cr hm (by omega)
    have co:=rest_can (p:=p) (m:=m) (by omega) rr.can cr
    have g2:=g153_ok (l:=rest p out r) (by rw [co.len]; exact hm)
    have lw:=co.len
    have hle:=ld_le (rest p out r)
    by_cases q:ld (rest p out r) = (rest p out r).length
    · have e1:stepR p out r = out:=by unfold stepR; rw [if_pos q]
      have e2:ldI (rest p out r) = -1:=by unfold ldI; rw [if_pos q]
      rw [e2] at g2
      rw [e1]
      simp (disch:=omega) only [st85_3,dln_t,cond_true,ofn,dlt_t,ib_t,tn_cast,hr1,g1,g2,w6_id]
      rfl
    · have e2:ldI (rest p out r) = (ld (rest p out r):Int):=by unfold ldI; rw [if_neg q]
      rw [e2] at g2
      have w:=own_of hP rr cr q
      have e1:stepR p out r = ins p (scl p (inv p (el (rest p out r) (ld (rest p out r)))) (rest p out r)) (ld (rest p out r)) out:=by unfold stepR; rw [if_neg q]
      rw [e1]
      have z:=co.rng (ld (rest p out r))
      have g3:cf75 (p,(rest p out r).getD (ld (rest p out r)) 0,()) = some (inv p (el (rest p out r) (ld (rest p out r))),()):=g75_ok (by simp only [el] at z; omega)
      have hi2:=(inv_ok hP (x:=el (rest p out r) (ld (rest p out r))) (by rw [co.mod]; exact ld_ne _ (by omega))).1
      generalize ld (rest p out r) = at_ at *
      generalize rest p out r = own at *
      generalize inv p (el own at_) = c at *
      have L1:=fun kx => scale_loop (F0:=F) (F:=F) (rows:=rows) (out:=out) (i:=(i:Int)) (at_:=(at_:Int)) (kx:=kx) hp ⟨by omega,hi2.2⟩ co hm (by omega)
      have L2:=fun kx => put_loop (F0:=F) (F:=F) (rows:=rows) (i:=(i:Int)) (kx:=kx) hp w rr hm (by omega) (by omega)
      have ln:=nextL_len (p:=p) (own:=scl p c own) (at_:=at_) (L:=out)
      simp (disch:=omega) only [st85_3,dln_t,cond_true,ofn,dlt_t,dlt_f,cond_false,ib_t,tn_cast,hr1,g1,g2,g3,ru85_10,ru85_15,L1,L2]
      unfold nextL at ln ⊢
      cases hg:anyG at_ out with
      | true =>
        simp (disch:=omega) only [Bool.not_true,cond_false,cond_true,w6_id]
        rfl
      | false =>
        rw [hg] at ln
        simp only [cond_false] at ln
        rw [ins_none hg]
        simp (disch:=first | omega | (simp only [List.length_singleton]; omega)) only [Bool.not_false,cond_false,cond_true,grow_t,List.length_singleton,w6_id]
        rfl
  · rw [List.take_length]
    simp (disch:=omega) only [st85_3,dln_t,cond_true,ofn,dlt_f,cond_false]
open Classical in
noncomputable def c108 (p:Int) (rows:List (List Int)):Option (List (List Int) × Unit):=if isP p = true ∧ (∃ m,m ≤ 1000000 ∧ ∀ r ∈ rows,Can p m r) ∧ rows.length ≤ 500000 then some (ech p rows,()) else none
noncomputable def cf108:Args [.v i64,.v (.slice 44 (.slice 2 i64))]->Option R85:=fun x => c108 x.1 x.2.1
theorem k108:KOne Tryz.prog 85 ⟨[.v i64,.v (.slice 44 (.slice 2 i64))],[.slice 44 (.slice 2 i64)],false,false,0,cf108⟩:=ok85 _ _ _ _ (.cons k153 (.cons k75 (.cons k154 (.cons k152 .nil)))) cf108 fun x y h => by
  obtain ⟨p,rows,_⟩:=x
  simp only [cf108,c108] at h
  split at h
  · rename_i hc
    injection h with h; subst h
    obtain ⟨h1,⟨m,h2,h3⟩,h4⟩:=hc
    exact ⟨_,run108 h1 h3 h2 h4 (Nat.lt_succ_self _)⟩
  · cases h
theorem g108_ok {p:Int} {m:Nat} {rows:List (List Int)} (hP:isP p = true) (hr:∀ r ∈ rows,Can p m r) (hm:m ≤ 1000000) (hn:rows.length ≤ 500000):cf108 (p,rows,()) = some (ech p rows,()):=if_pos ⟨hP,⟨m,hm,hr⟩,hn⟩
section
variable {p:Int} {m:Nat}
theorem fold_perm (hP:isP p = true):∀ {rows a b:List (List Int)},a.Perm b->RR p m b->(∀ r ∈ rows,Can p m r)->(rows.foldl (takeL p) a).Perm (rows.foldl (stepR p) b)
  | [],a,b,h,_,_ => h
  | r :: rs,a,b,h,rr,hc => by
    have:=isP_pos hP
    exact fold_perm (rows:=rs) hP (take_perm (by omega) h rr (hc r (.head _))) (stepR_RR hP rr (hc r (.head _))) fun x hx => hc x (.tail _ hx)
theorem ldI_of {r:List Int} (h:ld r < r.length):ldI r = (ld r:Int):=by unfold ldI; rw [if_neg (by omega)]
theorem RR.lds {out:List (List Int)} (rr:RR p m out):out.Pairwise fun a b => ldI a < ldI b:=by
  refine rr.ord.imp_of_mem fun {a b} ha hb h => ?_
  rw [ldI_of (by rw [(rr.can a ha).len]; exact rr.lt a ha),ldI_of (by rw [(rr.can b hb).len]; exact rr.lt b hb)]
  have:=h.1; omega
theorem sort_ech (hP:isP p = true) {rows:List (List Int)} (hc:∀ r ∈ rows,Can p m r):sortK ldI (rows.foldl (takeL p) []) = ech p rows ∧ ((rows.foldl (takeL p) []).map ldI).Nodup:=by
  have hp:(rows.foldl (takeL p) []).Perm (ech p rows):=fold_perm hP (.refl _) .nil hc
  have rr:=ech_RR hP hc
  have hn:((rows.foldl (takeL p) []).map ldI).Nodup:=by
    refine (hp.map ldI).nodup_iff.2 ?_
    rw [List.nodup_iff_pairwise_ne,List.pairwise_map]
    exact rr.lds.imp fun h => by omega
  exact ⟨(sortK_unique hp.symm (rr.lds.imp fun h => by omega) hn).symm,hn⟩
theorem take_mem (hP:isP p = true) {rows:List (List Int)} (hc:∀ r ∈ rows,Can p m r):∀ o ∈ rows.foldl (takeL p) [],Can p m o ∧ ld o < m:=fun o ho => by
  have hp:(rows.foldl (takeL p) []).Perm (ech p rows):=fold_perm hP (.refl _) .nil hc
  have rr:=ech_RR hP hc
  have:=hp.mem_iff.1 ho
  exact ⟨rr.can o this,rr.lt o this⟩
theorem takes_len:∀ {rows out:List (List Int)},(rows.foldl (takeL p) out).length ≤ out.length + rows.length
  | [],out => by simp
  | r :: rs,out => by
    have:=takes_len (rows:=rs) (out:=takeL p out r)
    have:=takeL_len (p:=p) (out:=out) (r:=r)
    simp only [List.foldl_cons,List.length_cons]; omega
end
abbrev R229:Type:=Ress [ex]
abbrev G229:Type:=Args [.v ex]->Option R229
abbrev kp229:List (Nat × List Nat):=[(0,[1,2]),(1,[3,1,2]),(2,[4,3,1,2]),(3,[6,4,3,1,2]),(5,[4,3,1,2]),(4,[4,3,1,2]),(6,[2])]
abbrev ct229:CTab:=[]
abbrev kr229:Env->Option R229:=endK TT [.cell 2 106] [ex] false false
abbrev sh229_3:Shape:=[(1,bb ex),(2,bb ex),(3,bb ex),(4,vv i64)]
def st229_3 (F:Nat) (s:ShVal sh229_3) (k kx:ShVal sh229_3->Option R229):Option R229 :=
  match s with
  | ((t1,_),(t2,_),(t3,_),(t4,_),_) => (bif decide (t4 < (3:Int)) then (bif ib t4 (Int.ofNat 3) then (bif ib t4 (Int.ofNat 3) then k ((t1,()),((t2,()),(((tset (tget (0:Int) 3 t1 (tn t4)) 3 t3 (tn t4)),()),(((w6 (t4 + (1:Int))),()),())))) else none) else none) else kx ((t1,()),((t2,()),((t3,()),((t4,()),())))))
def ru229_3 (F:Nat) (s:ShVal sh229_3) (kx:ShVal sh229_3->Option R229):Option R229:=iter (fun s k => st229_3 F s k kx) F s
abbrev ls229_3 (F:Nat):LS R229:=⟨sh229_3,0,ru229_3 F⟩
def fn229 (F:Nat) (x:Args [.v ex]):Option R229 :=
  match x with
  | (x0,_) => (ru229_3 F ((x0,()),(((Ty.dflt (.arr 3 (.int .u8))),()),(((Ty.dflt (.arr 3 (.int .u8))),()),(((0:Int),()),())))) (fun s' => match s' with | ((t1,_),(t2,_),(t3,_),(t4,_),_) => (some (t3,()))))
theorem ev229_3 (F:Nat) (s:ShVal sh229_3) (k kx:ShVal sh229_3->Option R229):evL TT (ct229 ) kp229 [] (loopOf Tryz.f229 3) (envOf sh229_3 s) (fitK sh229_3 k) (fun j e => bif Nat.beq j 0 then fitK sh229_3 kx e else none) kr229 = st229_3 F s k kx:=by
  obtain ⟨⟨t1,_⟩,⟨t2,_⟩,⟨t3,_⟩,⟨t4,_⟩,_⟩:=s
  kernel_rfl
theorem ok229_3 (F:Nat) (hK:KOK Tryz.prog (ct229 )):LSOK Tryz.prog ⟨15,false,undef⟩ (ls229_3 F) (loopOf Tryz.f229 3) kr229 :=
  loop_ok (st229_3 F) mixed tt_ok hK (by kernel_rfl) (LTOK_by (l:=[]) (by kernel_rfl) trivial) (ev229_3 F)
theorem ev229 (F:Nat) (x:Args [.v ex]):fnK TT (ct229 ) kp229 [ex] [(3,ls229_3 F)] (bodyOf Tryz.f229) [.cell 2 106] [.v ex] false false x = fn229 F x:=by
  obtain ⟨x0,_⟩:=x
  kernel_rfl
theorem ok229 (hK:KOK Tryz.prog (ct229 )) (cf:G229) (h:∀ x y,cf x = some y->∃ F,fn229 F x = some y):KOne Tryz.prog 229 ⟨[.v ex],[ex],false,false,0,cf⟩ :=
  fn_one rfl (c:=bodyOf Tryz.f229) mixed tt_ok hK Tryz.func229 (by kernel_rfl) (by kernel_rfl) (Nat.le_of_ble_eq_true (by kernel_rfl)) (by decide) fun x y hxy => by
    obtain ⟨F,hF⟩:=h x y hxy
    exact ⟨[(3,ls229_3 F)],LTOK_by (l:=[loopOf Tryz.f229 3]) (by kernel_rfl) ⟨ls_at (by kernel_rfl) (ok229_3 F hK),trivial⟩,(ev229 F x).trans hF⟩
abbrev R192:Type:=Ress [mat]
abbrev G192:Type:=Args [.v mat]->Option R192
abbrev kp192:List (Nat × List Nat):=[(0,[1,2]),(1,[3,1,2]),(2,[4,3,1,2]),(3,[6,4,3,1,2]),(5,[4,3,1,2]),(4,[4,3,1,2]),(6,[2])]
abbrev ct192 (g229:G229):CTab:=[(229,⟨[.v ex],[ex],false,false,0,g229⟩)]
abbrev kr192:Env->Option R192:=endK TT [.cell 2 112] [mat] false false
abbrev sh192_3:Shape:=[(1,bb mat),(2,bb mat),(3,bb mat),(4,vv i64)]
def st192_3 (g229:G229) (F:Nat) (s:ShVal sh192_3) (k kx:ShVal sh192_3->Option R192):Option R192 :=
  match s with
  | ((t1,_),(t2,_),(t3,_),(t4,_),_) => (bif decide (t4 < (3:Int)) then (bif ib t4 (Int.ofNat 3) then (match (g229 ((tget (Ty.dflt (.arr 3 (.int .u8))) 3 t1 (tn t4)),())) with | some r11 => (bif ib t4 (Int.ofNat 3) then k ((t1,()),((t2,()),(((tset r11.1 3 t3 (tn t4)),()),(((w6 (t4 + (1:Int))),()),())))) else none) | none => none) else none) else kx ((t1,()),((t2,()),((t3,()),((t4,()),())))))
def ru192_3 (g229:G229) (F:Nat) (s:ShVal sh192_3) (kx:ShVal sh192_3->Option R192):Option R192:=iter (fun s k => st192_3 g229 F s k kx) F s
abbrev ls192_3 (g229:G229) (F:Nat):LS R192:=⟨sh192_3,0,ru192_3 g229 F⟩
def fn192 (g229:G229) (F:Nat) (x:Args [.v mat]):Option R192 :=
  match x with
  | (x0,_) => (ru192_3 g229 F ((x0,()),(((Ty.dflt (.arr 3 (.arr 3 (.int .u8)))),()),(((Ty.dflt (.arr 3 (.arr 3 (.int .u8)))),()),(((0:Int),()),())))) (fun s' => match s' with | ((t1,_),(t2,_),(t3,_),(t4,_),_) => (some (t3,()))))
theorem ev192_3 (g229:G229) (F:Nat) (s:ShVal sh192_3) (k kx:ShVal sh192_3->Option R192):evL TT (ct192 g229 ) kp192 [] (loopOf Tryz.f192 3) (envOf sh192_3 s) (fitK sh192_3 k) (fun j e => bif Nat.beq j 0 then fitK sh192_3 kx e else none) kr192 = st192_3 g229 F s k kx:=by
  obtain ⟨⟨t1,_⟩,⟨t2,_⟩,⟨t3,_⟩,⟨t4,_⟩,_⟩:=s
  kernel_rfl
theorem ok192_3 (g229:G229) (F:Nat) (hK:KOK Tryz.prog (ct192 g229 )):LSOK Tryz.prog ⟨16,false,undef⟩ (ls192_3 g229 F) (loopOf Tryz.f192 3) kr192 :=
  loop_ok (st192_3 g229 F) mixed tt_ok hK (by kernel_rfl) (LTOK_by (l:=[]) (by kernel_rfl) trivial) (ev192_3 g229 F)
theorem ev192 (g229:G229) (F:Nat) (x:Args [.v mat]):fnK TT (ct192 g229 ) kp192 [mat] [(3,ls192_3 g229 F)] (bodyOf Tryz.f192) [.cell 2 112] [.v mat] false false x = fn192 g229 F x:=by
  obtain ⟨x0,_⟩:=x
  kernel_rfl
theorem ok192 (g229:G229) (hK:KOK Tryz.prog (ct192 g229 )) (cf:G192) (h:∀ x y,cf x = some y->∃ F,fn192 g229 F x = some y):KOne Tryz.prog 192 ⟨[.v mat],[mat],false,false,0,cf⟩ :=
  fn_one rfl (c:=bodyOf Tryz.f192) mixed tt_ok hK Tryz.func192 (by kernel_rfl) (by kernel_rfl) (Nat.le_of_ble_eq_true (by kernel_rfl)) (by decide) fun x y hxy => by
    obtain ⟨F,hF⟩:=h x y hxy
    exact ⟨[(3,ls192_3 g229 F)],LTOK_by (l:=[loopOf Tryz.f192 3]) (by kernel_rfl) ⟨ls_at (by kernel_rfl) (ok192_3 g229 F hK),trivial⟩,(ev192 g229 F x).trans hF⟩
abbrev R228:Type:=Ress [mat,.bool]
abbrev G228:Type:=Args [.v i64,.v i64,.v mat]->Option R228
abbrev kp228:List (Nat × List Nat):=[(0,[1,5,0,6]),(1,[8,1,5,0,6]),(2,[8,1,9,5,0,6]),(3,[19,5,9,8,1,0,6]),(5,[5,9,10,8,1,0,6]),(6,[11,5,9,10,8,1,0,6]),(7,[27,11,5,9,10,8,1,0,6]),(9,[11,5,9,10,8,1,0,6]),(8,[11,5,9,10,8,1,0,6]),(10,[8,10,9,1,5,0,6]),(11,[9,8,1,5,0,6]),(4,[8,1,9,5,0,6]),(12,[12,1,13,6]),(13,[55,12,1,13,6]),(14,[7,6]),(15,[6,13,1,14,12]),(16,[59,12,14,1,13,6]),(18,[68,12,14,1,13,6]),(19,[7,6]),(20,[15,13,1,14,12,6]),(21,[72,15,13,1,14,12,6]),(23,[15,13,1,14,12,6]),(22,[15,13,1,14,12,6]),(17,[6,13,1,14,12]),(24,[7,6])]
abbrev ct228 (g85:G85) (g87:G87):CTab:=[(85,⟨[.v i64,.v (.slice 44 (.slice 2 i64))],[(.slice 44 (.slice 2 i64))],false,false,0,g85⟩),(87,⟨[.v (.slice 2 i64)],[i64],false,false,0,g87⟩)]
abbrev kr228:Env->Option R228:=endK TT [.cell 6 112,.tmp 7] [mat,.bool] false false
abbrev sh228_7:Shape:=[(0,vv i64),(1,vv i64),(5,bb mat),(6,bb mat),(8,vr 44 (.slice 2 i64) 129 false),(9,vv i64),(10,vr 2 i64 161 false),(11,vv i64)]
def st228_7 (g85:G85) (g87:G87) (F:Nat) (s:ShVal sh228_7) (k kx:ShVal sh228_7->Option R228):Option R228 :=
  match s with
  | ((t0,_),(t1,_),(t5,_),(t6,_),(t8,_),(t9,_),(t10,_),(t11,_),_) => (bif decide (t11 < t1) then (bif ib t9 (Int.ofNat 3) then (bif ib t11 (Int.ofNat 3) then (bif ib t11 (Int.ofNat (List.length t10)) then k ((t0,()),((t1,()),((t5,()),((t6,()),((t8,()),((t9,()),(((List.set t10 (tn t11) (w6 (tget (0:Int) 3 (tget (Ty.dflt (.arr 3 (.int .u8))) 3 t5 (tn t9)) (tn t11)))),()),(((w6 (t11 + (1:Int))),()),())))))))) else none) else none) else none) else kx ((t0,()),((t1,()),((t5,()),((t6,()),((t8,()),((t9,()),((t10,()),((t11,()),())))))))))
def ru228_7 (g85:G85) (g87:G87) (F:Nat) (s:ShVal sh228_7) (kx:ShVal sh228_7->Option R228):Option R228:=iter (fun s k => st228_7 g85 g87 F s k kx) F s
abbrev ls228_7 (g85:G85) (g87:G87) (F:Nat):LS R228:=⟨sh228_7,2,ru228_7 g85 g87 F⟩
abbrev sh228_3:Shape:=[(0,vv i64),(1,vv i64),(5,bb mat),(6,bb mat),(8,vr 44 (.slice 2 i64) 129 false),(9,vv i64)]
def st228_3 (g85:G85) (g87:G87) (F:Nat) (s:ShVal sh228_3) (k kx:ShVal sh228_3->Option R228):Option R228 :=
  match s with
  | ((t0,_),(t1,_),(t5,_),(t6,_),(t8,_),(t9,_),_) => (bif decide (t9 < t1) then (bif ((decide ((0:Int) ≤ (w6 ((2:Int) * t1))) && decide ((w6 ((2:Int) * t1)) ≤ (1099511627776:Int))) && decide ((w6 ((2:Int) * t1)) = (w6 ((2:Int) * t1)))) then (ru228_7 g85 g87 F ((t0,()),((t1,()),((t5,()),((t6,()),((t8,()),((t9,()),(((List.replicate (tn (w6 ((2:Int) * t1))) (0:Int)),()),(((0:Int),()),())))))))) (fun s' => match s' with | ((t0,_),(t1,_),(t5,_),(t6,_),(t8,_),(t9,_),(t10,_),(t11,_),_) => (bif ib (w6 (t1 + t9)) (Int.ofNat (List.length t10)) then (bif (growOk (List.length t8) (List.length ((List.set t10 (tn (w6 (t1 + t9))) (1:Int)) :: []))) then k ((t0,()),((t1,()),((t5,()),((t6,()),(((t8 ++ ((List.set t10 (tn (w6 (t1 + t9))) (1:Int)) :: [])),()),(((w6 (t9 + (1:Int))),()),())))))) else none) else none))) else none) else kx ((t0,()),((t1,()),((t5,()),((t6,()),((t8,()),((t9,()),())))))))
def ru228_3 (g85:G85) (g87:G87) (F:Nat) (s:ShVal sh228_3) (kx:ShVal sh228_3->Option R228):Option R228:=iter (fun s k => st228_3 g85 g87 F s k kx) F s
abbrev ls228_3 (g85:G85) (g87:G87) (F:Nat):LS R228:=⟨sh228_3,0,ru228_3 g85 g87 F⟩
abbrev sh228_21:Shape:=[(1,vv i64),(6,bb mat),(12,vv (.slice 44 (.slice 2 i64))),(13,bb mat),(14,vv i64),(15,vv i64)]
def st228_21 (g85:G85) (g87:G87) (F:Nat) (s:ShVal sh228_21) (k kx:ShVal sh228_21->Option R228):Option R228 :=
  match s with
  | ((t1,_),(t6,_),(t12,_),(t13,_),(t14,_),(t15,_),_) => (bif decide (t15 < t1) then (bif ib t14 (Int.ofNat (List.length t12)) then (bif ib (w6 (t1 + t15)) (Int.ofNat (List.length (List.getD t12 (tn t14) []))) then (bif ib t14 (Int.ofNat 3) then (bif ib t15 (Int.ofNat 3) then k ((t1,()),((t6,()),((t12,()),(((tset (tset (w8 (List.getD (List.getD t12 (tn t14) []) (tn (w6 (t1 + t15))) (0:Int))) 3 (tget (Ty.dflt (.arr 3 (.int .u8))) 3 t13 (tn t14)) (tn t15)) 3 t13 (tn t14)),()),((t14,()),(((w6 (t15 + (1:Int))),()),())))))) else none) else none) else none) else none) else kx ((t1,()),((t6,()),((t12,()),((t13,()),((t14,()),((t15,()),())))))))
def ru228_21 (g85:G85) (g87:G87) (F:Nat) (s:ShVal sh228_21) (kx:ShVal sh228_21->Option R228):Option R228:=iter (fun s k => st228_21 g85 g87 F s k kx) F s
abbrev ls228_21 (g85:G85) (g87:G87) (F:Nat):LS R228:=⟨sh228_21,6,ru228_21 g85 g87 F⟩
abbrev sh228_16:Shape:=[(1,vv i64),(6,bb mat),(12,vv (.slice 44 (.slice 2 i64))),(13,bb mat),(14,vv i64)]
def st228_16 (g85:G85) (g87:G87) (F:Nat) (s:ShVal sh228_16) (k kx:ShVal sh228_16->Option R228):Option R228 :=
  match s with
  | ((t1,_),(t6,_),(t12,_),(t13,_),(t14,_),_) => (bif decide (t14 < t1) then (bif ib t14 (Int.ofNat (List.length t12)) then (match (g87 ((List.getD t12 (tn t14) []),())) with | some r25 => (bif (!decide (r25.1 = t14)) then (some (t13,(false,()))) else (ru228_21 g85 g87 F ((t1,()),((t6,()),((t12,()),((t13,()),((t14,()),(((0:Int),()),())))))) (fun s' => match s' with | ((t1,_),(t6,_),(t12,_),(t13,_),(t14,_),(t15,_),_) => k ((t1,()),((t6,()),((t12,()),((t13,()),(((w6 (t14 + (1:Int))),()),())))))))) | none => none) else none) else kx ((t1,()),((t6,()),((t12,()),((t13,()),((t14,()),()))))))
def ru228_16 (g85:G85) (g87:G87) (F:Nat) (s:ShVal sh228_16) (kx:ShVal sh228_16->Option R228):Option R228:=iter (fun s k => st228_16 g85 g87 F s k kx) F s
abbrev ls228_16 (g85:G85) (g87:G87) (F:Nat):LS R228:=⟨sh228_16,4,ru228_16 g85 g87 F⟩
def fn228 (g85:G85) (g87:G87) (F:Nat) (x:Args [.v i64,.v i64,.v mat]):Option R228 :=
  match x with
  | (x0,x1,x2,_) => (ru228_3 g85 g87 F ((x0,()),((x1,()),((x2,()),(((Ty.dflt (.arr 3 (.arr 3 (.int .u8)))),()),(([],()),(((0:Int),()),())))))) (fun s' => match s' with | ((t0,_),(t1,_),(t5,_),(t6,_),(t8,_),(t9,_),_) => (match (g85 (t0,(t8,()))) with | some r15 => (bif decide ((List.length r15.1) ≤ 9223372036854775807) then (bif (!decide ((Int.ofNat (List.length r15.1)) = t1)) then (some ((tup (Prod Int (Prod Int (Prod Int Unit))) (Ty.dflt (.arr 3 (.int .u8))) 3),(false,()))) else (ru228_16 g85 g87 F ((t1,()),((t6,()),((r15.1,()),(((tup (Prod Int (Prod Int (Prod Int Unit))) (Ty.dflt (.arr 3 (.int .u8))) 3),()),(((0:Int),()),()))))) (fun s' => match s' with | ((t1,_),(t6,_),(t12,_),(t13,_),(t14,_),_) => (some (t13,(true,())))))) else none) | none => none)))
theorem ev228_7 (g85:G85) (g87:G87) (F:Nat) (s:ShVal sh228_7) (k kx:ShVal sh228_7->Option R228):evL TT (ct228 g85 g87 ) kp228 [] (loopOf Tryz.f228 7) (envOf sh228_7 s) (fitK sh228_7 k) (fun j e => bif Nat.beq j 2 then fitK sh228_7 kx e else none) kr228 = st228_7 g85 g87 F s k kx:=by
  obtain ⟨⟨t0,_⟩,⟨t1,_⟩,⟨t5,_⟩,⟨t6,_⟩,⟨t8,_⟩,⟨t9,_⟩,⟨t10,_⟩,⟨t11,_⟩,_⟩:=s
  kernel_rfl
theorem ok228_7 (g85:G85) (g87:G87) (F:Nat) (hK:KOK Tryz.prog (ct228 g85 g87 )):LSOK Tryz.prog ⟨90,false,undef⟩ (ls228_7 g85 g87 F) (loopOf Tryz.f228 7) kr228 :=
  loop_ok (st228_7 g85 g87 F) mixed tt_ok hK (by kernel_rfl) (LTOK_by (l:=[]) (by kernel_rfl) trivial) (ev228_7 g85 g87 F)
theorem ev228_3 (g85:G85) (g87:G87) (F:Nat) (s:ShVal sh228_3) (k kx:ShVal sh228_3->Option R228):evL TT (ct228 g85 g87 ) kp228 [(7,ls228_7 g85 g87 F)] (loopOf Tryz.f228 3) (envOf sh228_3 s) (fitK sh228_3 k) (fun j e => bif Nat.beq j 0 then fitK sh228_3 kx e else none) kr228 = st228_3 g85 g87 F s k kx:=by
  obtain ⟨⟨t0,_⟩,⟨t1,_⟩,⟨t5,_⟩,⟨t6,_⟩,⟨t8,_⟩,⟨t9,_⟩,_⟩:=s
  kernel_rfl
theorem ok228_3 (g85:G85) (g87:G87) (F:Nat) (hK:KOK Tryz.prog (ct228 g85 g87 )):LSOK Tryz.prog ⟨90,false,undef⟩ (ls228_3 g85 g87 F) (loopOf Tryz.f228 3) kr228 :=
  loop_ok (st228_3 g85 g87 F) mixed tt_ok hK (by kernel_rfl) (LTOK_by (l:=[loopOf Tryz.f228 7]) (by kernel_rfl) ⟨ls_at (by kernel_rfl) (ok228_7 g85 g87 F hK),trivial⟩) (ev228_3 g85 g87 F)
theorem ev228_21 (g85:G85) (g87:G87) (F:Nat) (s:ShVal sh228_21) (k kx:ShVal sh228_21->Option R228):evL TT (ct228 g85 g87 ) kp228 [] (loopOf Tryz.f228 21) (envOf sh228_21 s) (fitK sh228_21 k) (fun j e => bif Nat.beq j 6 then fitK sh228_21 kx e else none) kr228 = st228_21 g85 g87 F s k kx:=by
  obtain ⟨⟨t1,_⟩,⟨t6,_⟩,⟨t12,_⟩,⟨t13,_⟩,⟨t14,_⟩,⟨t15,_⟩,_⟩:=s
  kernel_rfl
theorem ok228_21 (g85:G85) (g87:G87) (F:Nat) (hK:KOK Tryz.prog (ct228 g85 g87 )):LSOK Tryz.prog ⟨90,false,undef⟩ (ls228_21 g85 g87 F) (loopOf Tryz.f228 21) kr228 :=
  loop_ok (st228_21 g85 g87 F) mixed tt_ok hK (by kernel_rfl) (LTOK_by (l:=[]) (by kernel_rfl) trivial) (ev228_21 g85 g87 F)
theorem ev228_16 (g85:G85) (g87:G87) (F:Nat) (s:ShVal sh228_16) (k kx:ShVal sh228_16->Option R228):evL TT (ct228 g85 g87 ) kp228 [(21,ls228_21 g85 g87 F)] (loopOf Tryz.f228 16) (envOf sh228_16 s) (fitK sh228_16 k) (fun j e => bif Nat.beq j 4 then fitK sh228_16 kx e else none) kr228 = st228_16 g85 g87 F s k kx:=by
  obtain ⟨⟨t1,_⟩,⟨t6,_⟩,⟨t12,_⟩,⟨t13,_⟩,⟨t14,_⟩,_⟩:=s
  kernel_rfl
theorem ok228_16 (g85:G85) (g87:G87) (F:Nat) (hK:KOK Tryz.prog (ct228 g85 g87 )):LSOK Tryz.prog ⟨90,false,undef⟩ (ls228_16 g85 g87 F) (loopOf Tryz.f228 16) kr228 :=
  loop_ok (st228_16 g85 g87 F) mixed tt_ok hK (by kernel_rfl) (LTOK_by (l:=[loopOf Tryz.f228 21]) (by kernel_rfl) ⟨ls_at (by kernel_rfl) (ok228_21 g85 g87 F hK),trivial⟩) (ev228_16 g85 g87 F)
theorem ev228 (g85:G85) (g87:G87) (F:Nat) (x:Args [.v i64,.v i64,.v mat]):fnK TT (ct228 g85 g87 ) kp228 [mat,.bool] [(3,ls228_3 g85 g87 F),(16,ls228_16 g85 g87 F)] (bodyOf Tryz.f228) [.cell 6 112,.tmp 7] [.v i64,.v i64,.v mat] false false x = fn228 g85 g87 F x:=by
  obtain ⟨x0,x1,x2,_⟩:=x
  kernel_rfl
theorem ok228 (g85:G85) (g87:G87) (hK:KOK Tryz.prog (ct228 g85 g87 )) (cf:G228) (h:∀ x y,cf x = some y->∃ F,fn228 g85 g87 F x = some y):KOne Tryz.prog 228 ⟨[.v i64,.v i64,.v mat],[mat,.bool],false,false,0,cf⟩ :=
  fn_one rfl (c:=bodyOf Tryz.f228) mixed tt_ok hK Tryz.func228 (by kernel_rfl) (by kernel_rfl) (Nat.le_of_ble_eq_true (by kernel_rfl)) (by decide) fun x y hxy => by
    obtain ⟨F,hF⟩:=h x y hxy
    exact ⟨[(3,ls228_3 g85 g87 F),(16,ls228_16 g85 g87 F)],LTOK_by (l:=[loopOf Tryz.f228 3,loopOf Tryz.f228 16]) (by kernel_rfl) ⟨ls_at (by kernel_rfl) (ok228_3 g85 g87 F hK),⟨ls_at (by kernel_rfl) (ok228_16 g85 g87 F hK),trivial⟩⟩,(ev228 g85 g87 F x).trans hF⟩
abbrev R183:Type:=Ress [.bool]
abbrev G183:Type:=Args [.v i64,.v i64,.v mat]->Option R183
abbrev kp183:List (Nat × List Nat):=[(0,[5,1,0]),(1,[18,5,1,0]),(2,[6]),(3,[0,1,7,5]),(4,[20,5,7,1,0]),(6,[8,5,7,1,0]),(7,[24,0,1,7,5,8]),(9,[52,0,1,7,5,8]),(10,[6]),(8,[8,5,7,1,0]),(5,[0,1,7,5]),(11,[10]),(12,[6])]
abbrev ct183 (g155:G155) (g131:G131) (g228:G228):CTab:=[(155,⟨[.v i64],[.bool],false,false,0,g155⟩),(131,⟨[.v i64,.v i64,.v i64],[.bool],false,false,0,g131⟩),(228,⟨[.v i64,.v i64,.v mat],[mat,.bool],false,false,0,g228⟩)]
abbrev kr183:Env->Option R183:=endK TT [.tmp 6] [.bool] false false
abbrev sh183_7:Shape:=[(0,vv i64),(1,vv i64),(5,bb mat),(7,vv i64),(8,vv i64)]
def st183_7 (g155:G155) (g131:G131) (g228:G228) (F:Nat) (s:ShVal sh183_7) (k kx:ShVal sh183_7->Option R183):Option R183 :=
  match s with
  | ((t0,_),(t1,_),(t5,_),(t7,_),(t8,_),_) => (bif decide (t8 < (3:Int)) then (bif ib t7 (Int.ofNat 3) then (bif ib t8 (Int.ofNat 3) then (bif decide (t0 ≤ (w6 (tget (0:Int) 3 (tget (Ty.dflt (.arr 3 (.int .u8))) 3 t5 (tn t7)) (tn t8)))) then (some (false,())) else (bif decide (t1 ≤ t7) then (bif ib t7 (Int.ofNat 3) then (bif ib t8 (Int.ofNat 3) then (bif (bif false then true else (bif true then (!decide ((tget (0:Int) 3 (tget (Ty.dflt (.arr 3 (.int .u8))) 3 t5 (tn t7)) (tn t8)) = (0:Int))) else false)) then (some (false,())) else k ((t0,()),((t1,()),((t5,()),((t7,()),(((w6 (t8 + (1:Int))),()),())))))) else none) else none) else (bif (bif false then true else decide (t1 ≤ t8)) then (bif ib t7 (Int.ofNat 3) then (bif ib t8 (Int.ofNat 3) then (bif (bif false then true else (bif true then (!decide ((tget (0:Int) 3 (tget (Ty.dflt (.arr 3 (.int .u8))) 3 t5 (tn t7)) (tn t8)) = (0:Int))) else false)) then (some (false,())) else k ((t0,()),((t1,()),((t5,()),((t7,()),(((w6 (t8 + (1:Int))),()),())))))) else none) else none) else (bif (bif false then true else false) then (some (false,())) else k ((t0,()),((t1,()),((t5,()),((t7,()),(((w6 (t8 + (1:Int))),()),()))))))))) else none) else none) else kx ((t0,()),((t1,()),((t5,()),((t7,()),((t8,()),()))))))
def ru183_7 (g155:G155) (g131:G131) (g228:G228) (F:Nat) (s:ShVal sh183_7) (kx:ShVal sh183_7->Option R183):Option R183:=iter (fun s k => st183_7 g155 g131 g228 F s k kx) F s
abbrev ls183_7 (g155:G155) (g131:G131) (g228:G228) (F:Nat):LS R183:=⟨sh183_7,2,ru183_7 g155 g131 g228 F⟩
abbrev sh183_4:Shape:=[(0,vv i64),(1,vv i64),(5,bb mat),(7,vv i64)]
def st183_4 (g155:G155) (g131:G131) (g228:G228) (F:Nat) (s:ShVal sh183_4) (k kx:ShVal sh183_4->Option R183):Option R183 :=
  match s with
  | ((t0,_),(t1,_),(t5,_),(t7,_),_) => (bif decide (t7 < (3:Int)) then (ru183_7 g155 g131 g228 F ((t0,()),((t1,()),((t5,()),((t7,()),(((0:Int),()),()))))) (fun s' => match s' with | ((t0,_),(t1,_),(t5,_),(t7,_),(t8,_),_) => k ((t0,()),((t1,()),((t5,()),(((w6 (t7 + (1:Int))),()),())))))) else kx ((t0,()),((t1,()),((t5,()),((t7,()),())))))
def ru183_4 (g155:G155) (g131:G131) (g228:G228) (F:Nat) (s:ShVal sh183_4) (kx:ShVal sh183_4->Option R183):Option R183:=iter (fun s k => st183_4 g155 g131 g228 F s k kx) F s
abbrev ls183_4 (g155:G155) (g131:G131) (g228:G228) (F:Nat):LS R183:=⟨sh183_4,0,ru183_4 g155 g131 g228 F⟩
def fn183 (g155:G155) (g131:G131) (g228:G228) (F:Nat) (x:Args [.v i64,.v i64,.v mat]):Option R183 :=
  match x with
  | (x0,x1,x2,_) => (match (g155 (x0,())) with | some r8 => (bif (!r8.1) then (some (false,())) else (match (g131 (x1,((1:Int),((3:Int),())))) with | some r9 => (bif (bif false then true else (!r9.1)) then (some (false,())) else (ru183_4 g155 g131 g228 F ((x0,()),((x1,()),((x2,()),(((0:Int),()),())))) (fun s' => match s' with | ((t0,_),(t1,_),(t5,_),(t7,_),_) => (match (g228 (t0,(t1,(t5,())))) with | some r16 => (some (r16.2.1,())) | none => none)))) | none => none)) | none => none)
theorem ev183_7 (g155:G155) (g131:G131) (g228:G228) (F:Nat) (s:ShVal sh183_7) (k kx:ShVal sh183_7->Option R183):evL TT (ct183 g155 g131 g228 ) kp183 [] (loopOf Tryz.f183 7) (envOf sh183_7 s) (fitK sh183_7 k) (fun j e => bif Nat.beq j 2 then fitK sh183_7 kx e else none) kr183 = st183_7 g155 g131 g228 F s k kx:=by
  obtain ⟨⟨t0,_⟩,⟨t1,_⟩,⟨t5,_⟩,⟨t7,_⟩,⟨t8,_⟩,_⟩:=s
  kernel_rfl
theorem ok183_7 (g155:G155) (g131:G131) (g228:G228) (F:Nat) (hK:KOK Tryz.prog (ct183 g155 g131 g228 )):LSOK Tryz.prog ⟨61,false,undef⟩ (ls183_7 g155 g131 g228 F) (loopOf Tryz.f183 7) kr183 :=
  loop_ok (st183_7 g155 g131 g228 F) mixed tt_ok hK (by kernel_rfl) (LTOK_by (l:=[]) (by kernel_rfl) trivial) (ev183_7 g155 g131 g228 F)
theorem ev183_4 (g155:G155) (g131:G131) (g228:G228) (F:Nat) (s:ShVal sh183_4) (k kx:ShVal sh183_4->Option R183):evL TT (ct183 g155 g131 g228 ) kp183 [(7,ls183_7 g155 g131 g228 F)] (loopOf Tryz.f183 4) (envOf sh183_4 s) (fitK sh183_4 k) (fun j e => bif Nat.beq j 0 then fitK sh183_4 kx e else none) kr183 = st183_4 g155 g131 g228 F s k kx:=by
  obtain ⟨⟨t0,_⟩,⟨t1,_⟩,⟨t5,_⟩,⟨t7,_⟩,_⟩:=s
  kernel_rfl
theorem ok183_4 (g155:G155) (g131:G131) (g228:G228) (F:Nat) (hK:KOK Tryz.prog (ct183 g155 g131 g228 )):LSOK Tryz.prog ⟨61,false,undef⟩ (ls183_4 g155 g131 g228 F) (loopOf Tryz.f183 4) kr183 :=
  loop_ok (st183_4 g155 g131 g228 F) mixed tt_ok hK (by kernel_rfl) (LTOK_by (l:=[loopOf Tryz.f183 7]) (by kernel_rfl) ⟨ls_at (by kernel_rfl) (ok183_7 g155 g131 g228 F hK),trivial⟩) (ev183_4 g155 g131 g228 F)
theorem ev183 (g155:G155) (g131:G131) (g228:G228) (F:Nat) (x:Args [.v i64,.v i64,.v mat]):fnK TT (ct183 g155 g131 g228 ) kp183 [.bool] [(4,ls183_4 g155 g131 g228 F)] (bodyOf Tryz.f183) [.tmp 6] [.v i64,.v i64,.v mat] false false x = fn183 g155 g131 g228 F x:=by
  obtain ⟨x0,x1,x2,_⟩:=x
  kernel_rfl
theorem ok183 (g155:G155) (g131:G131) (g228:G228) (hK:KOK Tryz.prog (ct183 g155 g131 g228 )) (cf:G183) (h:∀ x y,cf x = some y->∃ F,fn183 g155 g131 g228 F x = some y):KOne Tryz.prog 183 ⟨[.v i64,.v i64,.v mat],[.bool],false,false,0,cf⟩ :=
  fn_one rfl (c:=bodyOf Tryz.f183) mixed tt_ok hK Tryz.func183 (by kernel_rfl) (by kernel_rfl) (Nat.le_of_ble_eq_true (by kernel_rfl)) (by decide) fun x y hxy => by
    obtain ⟨F,hF⟩:=h x y hxy
    exact ⟨[(4,ls183_4 g155 g131 g228 F)],LTOK_by (l:=[loopOf Tryz.f183 4]) (by kernel_rfl) ⟨ls_at (by kernel_rfl) (ok183_4 g155 g131 g228 F hK),trivial⟩,(ev183 g155 g131 g228 F x).trans hF⟩
abbrev R259:Type:=Ress [i64]
abbrev G259:Type:=Args [.v i64,.v i64,.p mat]->Option R259
abbrev kp259:List (Nat × List Nat):=[(0,[0,1,2]),(1,[5])]
abbrev ct259:CTab:=[]
def fn259 (F:Nat) (x:Args [.v i64,.v i64,.p mat]):Option R259 :=
  match x with
  | (x0,x1,x2,_) => (bif ib x0 (Int.ofNat 3) then (bif ib x1 (Int.ofNat 3) then (some ((w6 (tget (0:Int) 3 (tget (Ty.dflt (.arr 3 (.int .u8))) 3 x2 (tn x0)) (tn x1))),())) else none) else none)
theorem ev259 (F:Nat) (x:Args [.v i64,.v i64,.p mat]):fnK TT (ct259 ) kp259 [i64] [] (bodyOf Tryz.f259) [.tmp 5] [.v i64,.v i64,.p mat] false false x = fn259 F x:=by
  obtain ⟨x0,x1,x2,_⟩:=x
  kernel_rfl
theorem ok259 (hK:KOK Tryz.prog (ct259 )) (cf:G259) (h:∀ x y,cf x = some y->∃ F,fn259 F x = some y):KOne Tryz.prog 259 ⟨[.v i64,.v i64,.p mat],[i64],false,false,0,cf⟩ :=
  fn_one rfl (c:=bodyOf Tryz.f259) mixed tt_ok hK Tryz.func259 (by kernel_rfl) (by kernel_rfl) (Nat.le_of_ble_eq_true (by kernel_rfl)) (by decide) fun x y hxy => by
    obtain ⟨F,hF⟩:=h x y hxy
    exact ⟨[],LTOK_by (l:=[]) (by kernel_rfl) trivial,(ev259 F x).trans hF⟩
abbrev R243:Type:=Ress [i64]
abbrev G243:Type:=Args [.v i64,.v i64,.v mat]->Option R243
abbrev kp243:List (Nat × List Nat):=[(0,[1,5,0]),(1,[1,7,5,0]),(2,[1,8,7,5,0]),(3,[8,12,7,5,0]),(4,[13,8,12,7,5,0]),(6,[26,8,7,5,0]),(7,[8,0]),(5,[8,0]),(8,[6])]
abbrev ct243 (g259:G259):CTab:=[(259,⟨[.v i64,.v i64,.p mat],[i64],false,false,0,g259⟩)]
def fn243 (g259:G259) (F:Nat) (x:Args [.v i64,.v i64,.v mat]):Option R243 :=
  match x with
  | (x0,x1,x2,_) => (match (g259 ((0:Int),((0:Int),(x2,())))) with | some r7 => (bif decide (x1 = (2:Int)) then (match (g259 ((0:Int),((0:Int),(x2,())))) with | some r11 => (match (g259 ((1:Int),((1:Int),(x2,())))) with | some r12 => (match (g259 ((0:Int),((1:Int),(x2,())))) with | some r13 => (match (g259 ((1:Int),((0:Int),(x2,())))) with | some r14 => (bif (!decide (x0 = (0:Int))) then (bif (!decide (x0 = (0:Int))) then (some ((Int.tmod (w6 ((Int.tmod (w6 ((w6 (r11.1 * r12.1)) - (w6 (r13.1 * r14.1)))) x0) + x0)) x0),())) else none) else none) | none => none) | none => none) | none => none) | none => none) else (bif decide (x1 = (3:Int)) then (match (g259 ((0:Int),((0:Int),(x2,())))) with | some r12 => (match (g259 ((1:Int),((1:Int),(x2,())))) with | some r13 => (match (g259 ((2:Int),((2:Int),(x2,())))) with | some r14 => (match (g259 ((1:Int),((2:Int),(x2,())))) with | some r15 => (match (g259 ((2:Int),((1:Int),(x2,())))) with | some r16 => (match (g259 ((0:Int),((1:Int),(x2,())))) with | some r17 => (match (g259 ((1:Int),((0:Int),(x2,())))) with | some r18 => (match (g259 ((2:Int),((2:Int),(x2,())))) with | some r19 => (match (g259 ((1:Int),((2:Int),(x2,())))) with | some r20 => (match (g259 ((2:Int),((0:Int),(x2,())))) with | some r21 => (match (g259 ((0:Int),((2:Int),(x2,())))) with | some r22 => (match (g259 ((1:Int),((0:Int),(x2,())))) with | some r23 => (match (g259 ((2:Int),((1:Int),(x2,())))) with | some r24 => (match (g259 ((1:Int),((1:Int),(x2,())))) with | some r25 => (match (g259 ((2:Int),((0:Int),(x2,())))) with | some r26 => (bif (!decide (x0 = (0:Int))) then (bif (!decide (x0 = (0:Int))) then (some ((Int.tmod (w6 ((Int.tmod (w6 ((w6 ((w6 (r12.1 * (w6 ((w6 (r13.1 * r14.1)) - (w6 (r15.1 * r16.1)))))) - (w6 (r17.1 * (w6 ((w6 (r18.1 * r19.1)) - (w6 (r20.1 * r21.1)))))))) + (w6 (r22.1 * (w6 ((w6 (r23.1 * r24.1)) - (w6 (r25.1 * r26.1)))))))) x0) + x0)) x0),())) else none) else none) | none => none) | none => none) | none => none) | none => none) | none => none) | none => none) | none => none) | none => none) | none => none) | none => none) | none => none) | none => none) | none => none) | none => none) | none => none) else (bif (!decide (x0 = (0:Int))) then (bif (!decide (x0 = (0:Int))) then (some ((Int.tmod (w6 ((Int.tmod r7.1 x0) + x0)) x0),())) else none) else none))) | none => none)
theorem ev243 (g259:G259) (F:Nat) (x:Args [.v i64,.v i64,.v mat]):fnK TT (ct243 g259 ) kp243 [i64] [] (bodyOf Tryz.f243) [.tmp 6] [.v i64,.v i64,.v mat] false false x = fn243 g259 F x:=by
  obtain ⟨x0,x1,x2,_⟩:=x
  kernel_rfl
theorem ok243 (g259:G259) (hK:KOK Tryz.prog (ct243 g259 )) (cf:G243) (h:∀ x y,cf x = some y->∃ F,fn243 g259 F x = some y):KOne Tryz.prog 243 ⟨[.v i64,.v i64,.v mat],[i64],false,false,0,cf⟩ :=
  fn_one rfl (c:=bodyOf Tryz.f243) mixed tt_ok hK Tryz.func243 (by kernel_rfl) (by kernel_rfl) (Nat.le_of_ble_eq_true (by kernel_rfl)) (by decide) fun x y hxy => by
    obtain ⟨F,hF⟩:=h x y hxy
    exact ⟨[],LTOK_by (l:=[]) (by kernel_rfl) trivial,(ev243 g259 F x).trans hF⟩
abbrev R230:Type:=Ress [.bool]
abbrev G230:Type:=Args [.v i64,.v i64,.v mat]->Option R230
abbrev kp230:List (Nat × List Nat):=[(0,[5,1,0]),(1,[16,5,1,0]),(2,[6]),(3,[17,0,1,5]),(4,[18,5,1,0,17]),(5,[5,7,1,0,17]),(6,[20,5,7,1,0,17]),(7,[21,17,0,1,7,5,20]),(8,[8,17,0,1,7,5,20]),(9,[48,17,0,1,7,5,20]),(10,[6]),(11,[20,5,7,1,0,17]),(12,[17,0,1,5]),(13,[6])]
abbrev ct230 (g165:G165) (g166:G166) (g243:G243):CTab:=[(165,⟨[.v i64],[.bool],false,false,0,g165⟩),(166,⟨[.v i64],[.bool],false,false,0,g166⟩),(243,⟨[.v i64,.v i64,.v mat],[i64],false,false,0,g243⟩)]
abbrev kr230:Env->Option R230:=endK TT [.tmp 6] [.bool] false false
abbrev sh230_7:Shape:=[(0,vv i64),(1,vv i64),(5,bb mat),(7,vv i64),(17,vv i64),(20,vv i64)]
def st230_7 (g165:G165) (g166:G166) (g243:G243) (F:Nat) (s:ShVal sh230_7) (k kx:ShVal sh230_7->Option R230):Option R230 :=
  match s with
  | ((t0,_),(t1,_),(t5,_),(t7,_),(t17,_),(t20,_),_) => (bif decide (t20 < (3:Int)) then (bif ib t7 (Int.ofNat 3) then (bif ib t20 (Int.ofNat 3) then (bif decide (t0 ≤ (w6 (tget (0:Int) 3 (tget (Ty.dflt (.arr 3 (.int .u8))) 3 t5 (tn t7)) (tn t20)))) then (some (false,())) else (bif decide (t1 ≤ t7) then (bif ib t7 (Int.ofNat 3) then (bif ib t20 (Int.ofNat 3) then (bif (bif false then true else (bif true then (!decide ((tget (0:Int) 3 (tget (Ty.dflt (.arr 3 (.int .u8))) 3 t5 (tn t7)) (tn t20)) = (0:Int))) else false)) then (some (false,())) else k ((t0,()),((t1,()),((t5,()),((t7,()),((t17,()),(((w6 (t20 + (1:Int))),()),()))))))) else none) else none) else (bif (bif false then true else decide (t1 ≤ t20)) then (bif ib t7 (Int.ofNat 3) then (bif ib t20 (Int.ofNat 3) then (bif (bif false then true else (bif true then (!decide ((tget (0:Int) 3 (tget (Ty.dflt (.arr 3 (.int .u8))) 3 t5 (tn t7)) (tn t20)) = (0:Int))) else false)) then (some (false,())) else k ((t0,()),((t1,()),((t5,()),((t7,()),((t17,()),(((w6 (t20 + (1:Int))),()),()))))))) else none) else none) else (bif (bif false then true else false) then (some (false,())) else k ((t0,()),((t1,()),((t5,()),((t7,()),((t17,()),(((w6 (t20 + (1:Int))),()),())))))))))) else none) else none) else kx ((t0,()),((t1,()),((t5,()),((t7,()),((t17,()),((t20,()),())))))))
def ru230_7 (g165:G165) (g166:G166) (g243:G243) (F:Nat) (s:ShVal sh230_7) (kx:ShVal sh230_7->Option R230):Option R230:=iter (fun s k => st230_7 g165 g166 g243 F s k kx) F s
abbrev ls230_7 (g165:G165) (g166:G166) (g243:G243) (F:Nat):LS R230:=⟨sh230_7,2,ru230_7 g165 g166 g243 F⟩
abbrev sh230_4:Shape:=[(0,vv i64),(1,vv i64),(5,bb mat),(17,vv i64)]
def st230_4 (g165:G165) (g166:G166) (g243:G243) (F:Nat) (s:ShVal sh230_4) (k kx:ShVal sh230_4->Option R230):Option R230 :=
  match s with
  | ((t0,_),(t1,_),(t5,_),(t17,_),_) => (bif decide (t17 < (3:Int)) then (ru230_7 g165 g166 g243 F ((t0,()),((t1,()),((t5,()),((t17,()),((t17,()),(((0:Int),()),())))))) (fun s' => match s' with | ((t0,_),(t1,_),(t5,_),(t7,_),(t17,_),(t20,_),_) => k ((t0,()),((t1,()),((t5,()),(((w6 (t17 + (1:Int))),()),())))))) else kx ((t0,()),((t1,()),((t5,()),((t17,()),())))))
def ru230_4 (g165:G165) (g166:G166) (g243:G243) (F:Nat) (s:ShVal sh230_4) (kx:ShVal sh230_4->Option R230):Option R230:=iter (fun s k => st230_4 g165 g166 g243 F s k kx) F s
abbrev ls230_4 (g165:G165) (g166:G166) (g243:G243) (F:Nat):LS R230:=⟨sh230_4,0,ru230_4 g165 g166 g243 F⟩
def fn230 (g165:G165) (g166:G166) (g243:G243) (F:Nat) (x:Args [.v i64,.v i64,.v mat]):Option R230 :=
  match x with
  | (x0,x1,x2,_) => (match (g165 (x0,())) with | some r8 => (bif (!r8.1) then (some (false,())) else (match (g166 (x1,())) with | some r9 => (bif (bif false then true else (!r9.1)) then (some (false,())) else (ru230_4 g165 g166 g243 F ((x0,()),((x1,()),((x2,()),(((0:Int),()),())))) (fun s' => match s' with | ((t0,_),(t1,_),(t5,_),(t17,_),_) => (match (g243 (t0,(t1,(t5,())))) with | some r16 => (some ((!decide (r16.1 = (0:Int))),())) | none => none)))) | none => none)) | none => none)
theorem ev230_7 (g165:G165) (g166:G166) (g243:G243) (F:Nat) (s:ShVal sh230_7) (k kx:ShVal sh230_7->Option R230):evL TT (ct230 g165 g166 g243 ) kp230 [] (loopOf Tryz.f230 7) (envOf sh230_7 s) (fitK sh230_7 k) (fun j e => bif Nat.beq j 2 then fitK sh230_7 kx e else none) kr230 = st230_7 g165 g166 g243 F s k kx:=by
  obtain ⟨⟨t0,_⟩,⟨t1,_⟩,⟨t5,_⟩,⟨t7,_⟩,⟨t17,_⟩,⟨t20,_⟩,_⟩:=s
  kernel_rfl
theorem ok230_7 (g165:G165) (g166:G166) (g243:G243) (F:Nat) (hK:KOK Tryz.prog (ct230 g165 g166 g243 )):LSOK Tryz.prog ⟨56,false,undef⟩ (ls230_7 g165 g166 g243 F) (loopOf Tryz.f230 7) kr230 :=
  loop_ok (st230_7 g165 g166 g243 F) mixed tt_ok hK (by kernel_rfl) (LTOK_by (l:=[]) (by kernel_rfl) trivial) (ev230_7 g165 g166 g243 F)
theorem ev230_4 (g165:G165) (g166:G166) (g243:G243) (F:Nat) (s:ShVal sh230_4) (k kx:ShVal sh230_4->Option R230):evL TT (ct230 g165 g166 g243 ) kp230 [(7,ls230_7 g165 g166 g243 F)] (loopOf Tryz.f230 4) (envOf sh230_4 s) (fitK sh230_4 k) (fun j e => bif Nat.beq j 0 then fitK sh230_4 kx e else none) kr230 = st230_4 g165 g166 g243 F s k kx:=by
  obtain ⟨⟨t0,_⟩,⟨t1,_⟩,⟨t5,_⟩,⟨t17,_⟩,_⟩:=s
  kernel_rfl
theorem ok230_4 (g165:G165) (g166:G166) (g243:G243) (F:Nat) (hK:KOK Tryz.prog (ct230 g165 g166 g243 )):LSOK Tryz.prog ⟨56,false,undef⟩ (ls230_4 g165 g166 g243 F) (loopOf Tryz.f230 4) kr230 :=
  loop_ok (st230_4 g165 g166 g243 F) mixed tt_ok hK (by kernel_rfl) (LTOK_by (l:=[loopOf Tryz.f230 7]) (by kernel_rfl) ⟨ls_at (by kernel_rfl) (ok230_7 g165 g166 g243 F hK),trivial⟩) (ev230_4 g165 g166 g243 F)
theorem ev230 (g165:G165) (g166:G166) (g243:G243) (F:Nat) (x:Args [.v i64,.v i64,.v mat]):fnK TT (ct230 g165 g166 g243 ) kp230 [.bool] [(4,ls230_4 g165 g166 g243 F)] (bodyOf Tryz.f230) [.tmp 6] [.v i64,.v i64,.v mat] false false x = fn230 g165 g166 g243 F x:=by
  obtain ⟨x0,x1,x2,_⟩:=x
  kernel_rfl
theorem ok230 (g165:G165) (g166:G166) (g243:G243) (hK:KOK Tryz.prog (ct230 g165 g166 g243 )) (cf:G230) (h:∀ x y,cf x = some y->∃ F,fn230 g165 g166 g243 F x = some y):KOne Tryz.prog 230 ⟨[.v i64,.v i64,.v mat],[.bool],false,false,0,cf⟩ :=
  fn_one rfl (c:=bodyOf Tryz.f230) mixed tt_ok hK Tryz.func230 (by kernel_rfl) (by kernel_rfl) (Nat.le_of_ble_eq_true (by kernel_rfl)) (by decide) fun x y hxy => by
    obtain ⟨F,hF⟩:=h x y hxy
    exact ⟨[(4,ls230_4 g165 g166 g243 F)],LTOK_by (l:=[loopOf Tryz.f230 4]) (by kernel_rfl) ⟨ls_at (by kernel_rfl) (ok230_4 g165 g166 g243 F hK),trivial⟩,(ev230 g165 g166 g243 F x).trans hF⟩
abbrev R193:Type:=Ress [.bool]
abbrev G193:Type:=Args [.v i64,.v i64,.v (.slice 112 mat)]->Option R193
abbrev kp193:List (Nat × List Nat):=[(0,[2,1,0]),(1,[11,1,0,9,10]),(2,[12,10,9,0,1,11]),(3,[8,10,9,0,1,11]),(4,[19,10,9,0,1,11]),(5,[6]),(6,[11,1,0,9,10]),(7,[6])]
abbrev ct193 (g230:G230) (g166:G166) (g165:G165):CTab:=[(230,⟨[.v i64,.v i64,.v mat],[.bool],false,false,0,g230⟩),(166,⟨[.v i64],[.bool],false,false,0,g166⟩),(165,⟨[.v i64],[.bool],false,false,0,g165⟩)]
abbrev kr193:Env->Option R193:=endK TT [.tmp 6] [.bool] false false
abbrev sh193_2:Shape:=[(0,vv i64),(1,vv i64),(9,.val false [.fz (.slice 112 mat) 0 true]),(10,vv i64),(11,vv i64)]
def st193_2 (g230:G230) (g166:G166) (g165:G165) (F:Nat) (s:ShVal sh193_2) (k kx:ShVal sh193_2->Option R193):Option R193 :=
  match s with
  | ((t0,_),(t1,_),(t9,_),(t10,_),(t11,_),_) => (bif decide (t11 < t10) then (bif ib t11 (Int.ofNat (List.length t9)) then (match (g230 (t0,(t1,((List.getD t9 (tn t11) (Ty.dflt (.arr 3 (.arr 3 (.int .u8))))),())))) with | some r16 => (bif (!r16.1) then (some (false,())) else k ((t0,()),((t1,()),((t9,()),((t10,()),(((w6 (t11 + (1:Int))),()),())))))) | none => none) else none) else kx ((t0,()),((t1,()),((t9,()),((t10,()),((t11,()),()))))))
def ru193_2 (g230:G230) (g166:G166) (g165:G165) (F:Nat) (s:ShVal sh193_2) (kx:ShVal sh193_2->Option R193):Option R193:=iter (fun s k => st193_2 g230 g166 g165 F s k kx) F s
abbrev ls193_2 (g230:G230) (g166:G166) (g165:G165) (F:Nat):LS R193:=⟨sh193_2,0,ru193_2 g230 g166 g165 F⟩
def fn193 (g230:G230) (g166:G166) (g165:G165) (F:Nat) (x:Args [.v i64,.v i64,.v (.slice 112 mat)]):Option R193 :=
  match x with
  | (x0,x1,x2,_) => (bif decide ((List.length x2) ≤ 9223372036854775807) then (ru193_2 g230 g166 g165 F ((x0,()),((x1,()),((x2,()),(((Int.ofNat (List.length x2)),()),(((0:Int),()),()))))) (fun s' => match s' with | ((t0,_),(t1,_),(t9,_),(t10,_),(t11,_),_) => (match (g165 (t0,())) with | some r14 => (bif r14.1 then (match (g166 (t1,())) with | some r15 => (some ((bif true then r15.1 else false),())) | none => none) else (some (false,()))) | none => none))) else none)
theorem ev193_2 (g230:G230) (g166:G166) (g165:G165) (F:Nat) (s:ShVal sh193_2) (k kx:ShVal sh193_2->Option R193):evL TT (ct193 g230 g166 g165 ) kp193 [] (loopOf Tryz.f193 2) (envOf sh193_2 s) (fitK sh193_2 k) (fun j e => bif Nat.beq j 0 then fitK sh193_2 kx e else none) kr193 = st193_2 g230 g166 g165 F s k kx:=by
  obtain ⟨⟨t0,_⟩,⟨t1,_⟩,⟨t9,_⟩,⟨t10,_⟩,⟨t11,_⟩,_⟩:=s
  kernel_rfl
theorem ok193_2 (g230:G230) (g166:G166) (g165:G165) (F:Nat) (hK:KOK Tryz.prog (ct193 g230 g166 g165 )):LSOK Tryz.prog ⟨27,false,undef⟩ (ls193_2 g230 g166 g165 F) (loopOf Tryz.f193 2) kr193 :=
  loop_ok (st193_2 g230 g166 g165 F) mixed tt_ok hK (by kernel_rfl) (LTOK_by (l:=[]) (by kernel_rfl) trivial) (ev193_2 g230 g166 g165 F)
theorem ev193 (g230:G230) (g166:G166) (g165:G165) (F:Nat) (x:Args [.v i64,.v i64,.v (.slice 112 mat)]):fnK TT (ct193 g230 g166 g165 ) kp193 [.bool] [(2,ls193_2 g230 g166 g165 F)] (bodyOf Tryz.f193) [.tmp 6] [.v i64,.v i64,.v (.slice 112 mat)] false false x = fn193 g230 g166 g165 F x:=by
  obtain ⟨x0,x1,x2,_⟩:=x
  kernel_rfl
theorem ok193 (g230:G230) (g166:G166) (g165:G165) (hK:KOK Tryz.prog (ct193 g230 g166 g165 )) (cf:G193) (h:∀ x y,cf x = some y->∃ F,fn193 g230 g166 g165 F x = some y):KOne Tryz.prog 193 ⟨[.v i64,.v i64,.v (.slice 112 mat)],[.bool],false,false,0,cf⟩ :=
  fn_one rfl (c:=bodyOf Tryz.f193) mixed tt_ok hK Tryz.func193 (by kernel_rfl) (by kernel_rfl) (Nat.le_of_ble_eq_true (by kernel_rfl)) (by decide) fun x y hxy => by
    obtain ⟨F,hF⟩:=h x y hxy
    exact ⟨[(2,ls193_2 g230 g166 g165 F)],LTOK_by (l:=[loopOf Tryz.f193 2]) (by kernel_rfl) ⟨ls_at (by kernel_rfl) (ok193_2 g230 g166 g165 F hK),trivial⟩,(ev193 g230 g166 g165 F x).trans hF⟩
end Go.Proofs.YtmdpmnjnpnjppaaGreatEv
