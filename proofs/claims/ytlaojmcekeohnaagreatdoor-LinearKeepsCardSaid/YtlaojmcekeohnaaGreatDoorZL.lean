import Derived.Test.YtlaojmcekeohnaaGreatDoorRVb
import Derived.Test.YtlaojmcekeohnaaGreatDoorGhPT
import Derived.Test.YtlaojmcekeohnaaGreatDoorGhPR
import Derived.Test.YtlaojmcekeohnaaGreatDoorGhPC
import Derived.Test.YtlaojmcekeohnaaGreatDoorGhPD
import Derived.Test.YtlaojmcekeohnaaGreatDoorGhLS
import Derived.Test.YtlaojmcekeohnaaGreatDoorGhEQ
import Derived.Test.YtlaojmcekeohnaaGreatDoorGhPS
namespace Go.Proofs.YtlaojmcekeohnaaGreatDoor.Lift
open Go Go.Proofs.YtlaojmcekeohnaaGreatDoor.Gh Go.Proofs
abbrev P0 (b:Nat):Value:=.pointer (some ⟨b,0,none⟩)
theorem Ext.drawn {A G B:GS} (h:Ext A G) {n:Nat} (hn:A.nx≤n) (hB:A.nx≤B.nx) (o:GObj):Ext A (((G.at' n).push o).back B) :=
 ⟨by simpa using hB,fun g hg=>by
  have:=h.obj g hg
  simp only [obj_back,obj_push,nx_at,obj_at]
  rw [if_neg (by omega)]; exact this,by simpa using h.nl,fun l hl=>by simpa using h.loop l hl⟩
set_option linter.unusedVariables false
set_option linter.unusedSimpArgs false
@[simp] theorem rowsI_sz (k:IntKind):(rowsI k).sz=1:=rfl
@[simp] theorem rowsI_row (k:IntKind) (n:Int):(rowsI k).row n=[.int k n]:=rfl
theorem asc_ext:∀ {A B:List Nat},A.Pairwise (·<·)→B.Pairwise (·<·)→(∀ x,x∈A↔x∈B)→A=B
 | [],[],_,_,_=>rfl
 | [],b::B,_,_,h=>absurd ((h b).2 (by simp)) (by simp)
 | a::A,[],_,_,h=>absurd ((h a).1 (by simp)) (by simp)
 | a::A,b::B,hA,hB,h=>by
  obtain ⟨ha,hA'⟩:=List.pairwise_cons.1 hA
  obtain ⟨hb,hB'⟩:=List.pairwise_cons.1 hB
  have hab:a=b:=by
   rcases List.mem_cons.1 ((h a).1 (by simp)) with h1 | h1
   ·exact h1
   ·rcases List.mem_cons.1 ((h b).2 (by simp)) with h2 | h2
    ·exact h2.symm
    ·have:=ha b h2; have:=hb a h1; omega
  subst hab
  rw [asc_ext hA' hB' fun x=>?_]
  constructor
  ·intro hx
   rcases List.mem_cons.1 ((h x).1 (by simp [hx])) with h1 | h1
   ·have:=ha x hx; omega
   ·exact h1
  ·intro hx
   rcases List.mem_cons.1 ((h x).2 (by simp [hx])) with h1 | h1
   ·have:=hb x hx; omega
   ·exact h1
theorem low_split:∀ (n:Nat),n≠0→∃ i q,n=2 ^ i*(2*q+1):=by
 intro n
 induction n using Nat.strongRecOn with
 | _ n ih =>
  intro h
  by_cases h2:n % 2=1
  ·exact ⟨0,n / 2,by omega⟩
  ·obtain ⟨i,q,e⟩:=ih (n / 2) (by omega) (by omega)
   refine ⟨i+1,q,?_⟩
   rw [Nat.pow_succ,Nat.mul_right_comm,← e]; omega
theorem bit_n (i q j:Nat):(2 ^ i*(2*q+1)).testBit j=(decide (i≤j)&&(2*q+1).testBit (j - i)):=by
 have:=Nat.testBit_two_pow_mul_add (2*q+1) (b:=0) (i:=i) (Nat.two_pow_pos i) j
 rw [Nat.add_zero] at this
 rw [this]
 by_cases h:j<i
 ·rw [if_pos h]; simp; omega
 ·rw [if_neg h]; simp; omega
theorem bit_p (i q j:Nat):(2 ^ i*(2*q+1) - 1).testBit j=(decide (j<i)||(2*q).testBit (j - i)):=by
 have e:2 ^ i*(2*q+1) - 1=2 ^ i*(2*q)+(2 ^ i - 1):=by
  have:=Nat.two_pow_pos i
  rw [Nat.mul_add,Nat.mul_one]; omega
 rw [e,Nat.testBit_two_pow_mul_add _ (by have:=Nat.two_pow_pos i; omega)]
 by_cases h:j<i
 ·rw [if_pos h,Nat.testBit_two_pow_sub_one]; simp [h]
 ·rw [if_neg h]; simp [h]
theorem odd_bit (q k:Nat):(2*q+1).testBit k=(decide (k=0)||(2*q).testBit k):=by
 cases k with
 | zero=>simp [Nat.testBit_zero]
 | succ k =>
  rw [Nat.testBit_succ,Nat.testBit_succ]
  have h1:(2*q+1) / 2=q:=by omega
  have h2:2*q / 2=q:=by omega
  rw [h1,h2]; simp
structure Low (n i:Nat):Prop where
 at':n.testBit i=true
 below:∀ j,j<i→n.testBit j=false
 pred:∀ j,(n - 1).testBit j=(decide (j<i)||(n.testBit j&&decide (j≠i)))
theorem low_of {n:Nat} (h:n≠0):∃ i,Low n i:=by
 obtain ⟨i,q,rfl⟩:=low_split n h
 refine ⟨i,by rw [bit_n,odd_bit]; simp,fun j hj=>by rw [bit_n]; simp; omega,fun j=>?_⟩
 rw [bit_n,bit_p,odd_bit]
 by_cases h1:j<i
 ·simp [h1]
 ·by_cases h2:j=i
  ·subst h2; simp [Nat.testBit_zero]
  ·have:j - i≠0:=by omega
   simp [h1,h2,this]
   try (intro _; omega)
theorem Low.and {n i:Nat} (h:Low n i) (j:Nat):(n &&& (n - 1)).testBit j=(n.testBit j&&decide (j≠i)):=by
 rw [Nat.testBit_and,h.pred]
 by_cases h1:j<i
 ·rw [h.below j h1]; simp
 ·simp [h1]
theorem Low.lt {n i:Nat} (h:Low n i) (hn:n<2 ^ 64):i<64:=by
 rcases Nat.lt_or_ge i 64 with h1 | h1
 ·exact h1
 ·have:=Nat.testBit_lt_two_pow (Nat.lt_of_lt_of_le hn (Nat.pow_le_pow_right (by decide) h1))
  rw [h.at'] at this; cases this
theorem Low.land {n i:Nat} (h:Low n i) (hn:n<2 ^ 64):Nat.land n (18446744073709551616 - n)=2 ^ i:=by
 have h0:n≠0:=fun e=>by have:=h.at'; rw [e] at this; simp at this
 have hi:=h.lt hn
 show n &&& (18446744073709551616 - n)=2 ^ i
 apply Nat.eq_of_testBit_eq
 intro j
 have e:18446744073709551616 - n=2 ^ 64 - (n - 1+1):=by omega
 rw [Nat.testBit_and,e,Nat.testBit_two_pow_sub_succ (by omega),h.pred,Nat.testBit_two_pow]
 by_cases h1:j<i
 ·rw [h.below j h1]; simp; omega
 ·by_cases h2:j=i
  ·subst h2; simp [h.at',hi]
  ·simp [h1,h2]
   have:¬ i=j:=fun e=>h2 e.symm
   simp [this]
   intro h3 h4; simp [h3]
theorem Low.ctz {n i:Nat} (h:Low n i) (hn:n<2 ^ 64):ctzN n=(i:Int):=by
 have h0:n≠0:=fun e=>by have:=h.at'; rw [e] at this; simp at this
 have hb:Nat.beq n 0=false:=by cases n with | zero=>exact absurd rfl h0 | succ k=>rfl
 have ht:∀ i:Fin 64,nth 0 tabN ((2 ^ i.val*285870213051353865) % 18446744073709551616 / 288230376151711744)=i.val:=by decide
 unfold ctzN
 rw [hb,h.land hn]
 have:=ht ⟨i,h.lt hn⟩
 simp only at this
 rw [this]
 rfl
def bitsW (n:Nat):List Nat:=(List.range 64).filter n.testBit
theorem asc_range (n:Nat) (p:Nat→Bool):((List.range n).filter p).Pairwise (·<·):=List.pairwise_lt_range.filter p
theorem mem_bits {n j:Nat}:j∈bitsW n↔j<64∧n.testBit j=true:=by simp [bitsW]
theorem bits_zero:bitsW 0=[]:=by simp [bitsW]
theorem bits_low {n i:Nat} (h:Low n i) (hn:n<2 ^ 64):bitsW n=i::bitsW (n &&& (n - 1)):=by
 have hi:=h.lt hn
 refine asc_ext (asc_range _ _) (List.pairwise_cons.2 ⟨fun j hj=>?_,asc_range _ _⟩) fun j=>?_
 ·have:=(mem_bits.1 hj).2
  rw [h.and] at this
  simp at this
  rcases Nat.lt_or_ge j i with h1 | h1
  ·rw [h.below j h1] at this; simp at this
  ·omega
 ·rw [List.mem_cons,mem_bits,mem_bits,h.and]
  by_cases h1:j=i
  ·subst h1; simp [h.at',hi]
  ·simp [h1]
structure OkW (W:List Nat):Prop where
 len:W.length=16
 lt:∀ w∈W,w<2 ^ 64
def wd (W:List Nat) (k:Nat):Nat:=(W[k]?).getD 0
def has (W:List Nat) (i:Nat):Bool:=(wd W (i / 64)).testBit (i % 64)
def els (W:List Nat):List Nat:=(List.range 1024).filter (has W)
def elsW (W:List Nat) (k:Nat):List Nat:=(bitsW (wd W k)).map (k*64+·)
theorem OkW.wd {W:List Nat} (h:OkW W) (k:Nat):wd W k<2 ^ 64:=by
 unfold Lift.wd
 cases e:W[k]? with
 | none=>exact Nat.two_pow_pos 64
 | some w=>exact h.lt w (List.mem_of_getElem? e)
theorem mem_els {W:List Nat} {i:Nat}:i∈els W↔i<1024∧has W i=true:=by simp [els]
theorem els_asc (W:List Nat):(els W).Pairwise (·<·):=asc_range _ _
theorem elsW_asc (W:List Nat) (k:Nat):(elsW W k).Pairwise (·<·):=by
 unfold elsW
 rw [List.pairwise_map]
 exact (asc_range _ _).imp fun h=>by omega
theorem mem_elsW {W:List Nat} {k i:Nat}:i∈elsW W k↔i / 64=k∧has W i=true:=by
 unfold elsW has
 simp only [List.mem_map,mem_bits]
 constructor
 ·rintro ⟨j,⟨h1,h2⟩,rfl⟩
  have e1:(k*64+j) / 64=k:=by omega
  have e2:(k*64+j) % 64=j:=by omega
  rw [e1,e2]
  exact ⟨rfl,h2⟩
 ·rintro ⟨rfl,h⟩
  exact ⟨i % 64,⟨Nat.mod_lt _ (by decide),h⟩,by omega⟩
theorem flat_asc (W:List Nat):∀ (n i:Nat),((List.range' i n).flatMap (elsW W)).Pairwise (·<·)
 | 0,i=>by simp
 | n+1,i=>by
  rw [List.range'_succ,List.flatMap_cons,List.pairwise_append]
  refine ⟨elsW_asc W i,flat_asc W n (i+1),fun a ha b hb=>?_⟩
  obtain ⟨k,hk,hb⟩:=List.mem_flatMap.1 hb
  have h1:=(mem_elsW.1 ha).1
  have h2:=(mem_elsW.1 hb).1
  have h3:=(List.mem_range'_1.1 hk).1
  omega
theorem els_flat (W:List Nat):(List.range' 0 16).flatMap (elsW W)=els W:=by
 refine asc_ext (flat_asc W 16 0) (els_asc W) fun i=>?_
 rw [mem_els,List.mem_flatMap]
 constructor
 ·rintro ⟨k,hk,hi⟩
  have:=List.mem_range'_1.1 hk
  obtain ⟨h1,h2⟩:=mem_elsW.1 hi
  exact ⟨by omega,h2⟩
 ·rintro ⟨h1,h2⟩
  exact ⟨i / 64,List.mem_range'_1.2 ⟨by omega,by omega⟩,mem_elsW.2 ⟨rfl,h2⟩⟩
def withW (W:List Nat) (i:Nat):List Nat:=W.set (i / 64) (wd W (i / 64) ||| 2 ^ (i % 64))
def woW (W:List Nat) (i:Nat):List Nat:=W.set (i / 64) (wd W (i / 64) &&& (2 ^ 64 - (2 ^ (i % 64)+1)))
theorem wd_set {W:List Nat} {k w:Nat} (hk:k<W.length) (j:Nat):wd (W.set k w) j=if j=k then w else wd W j:=by
 unfold wd
 by_cases h:j=k
 ·subst h; simp [hk]
 ·rw [if_neg h,List.getElem?_set_ne (fun e=>h e.symm)]
theorem pow_lt64 {k:Nat} (h:k<64):2 ^ k<2 ^ 64:=Nat.pow_lt_pow_right (by decide) h
theorem OkW.set {W:List Nat} (h:OkW W) {k w:Nat} (hw:w<2 ^ 64):OkW (W.set k w) :=
 ⟨by rw [List.length_set]; exact h.len,fun x hx=>by
  rcases List.mem_or_eq_of_mem_set hx with h1 | h1
  ·exact h.lt x h1
  ·rw [h1]; exact hw⟩
theorem OkW.with {W:List Nat} (h:OkW W) (i:Nat):OkW (withW W i):=h.set (Nat.or_lt_two_pow (h.wd _) (pow_lt64 (Nat.mod_lt _ (by decide))))
theorem OkW.wo {W:List Nat} (h:OkW W) (i:Nat):OkW (woW W i):=h.set (Nat.lt_of_le_of_lt Nat.and_le_left (h.wd _))
theorem has_with {W:List Nat} (h:OkW W) {i:Nat} (hi:i<1024) (j:Nat):has (withW W i) j=(has W j||decide (j=i)):=by
 have hk:i / 64<W.length:=by rw [h.len]; omega
 unfold has withW
 rw [wd_set hk]
 by_cases h1:j / 64=i / 64
 ·rw [if_pos h1,Nat.testBit_or,Nat.testBit_two_pow,h1]
  congr 1
  rw [Bool.eq_iff_iff]; simp; omega
 ·rw [if_neg h1]
  have:¬ j=i:=fun e=>h1 (by rw [e])
  simp [this]
theorem has_wo {W:List Nat} (h:OkW W) {i:Nat} (hi:i<1024) (j:Nat):has (woW W i) j=(has W j&&decide (j≠i)):=by
 have hk:i / 64<W.length:=by rw [h.len]; omega
 unfold has woW
 rw [wd_set hk]
 by_cases h1:j / 64=i / 64
 ·rw [if_pos h1,Nat.testBit_and,Nat.testBit_two_pow_sub_succ (pow_lt64 (Nat.mod_lt _ (by decide))),Nat.testBit_two_pow,h1]
  congr 1
  have:=Nat.mod_lt j (show 0<64 by decide)
  rw [Bool.eq_iff_iff]; simp; omega
 ·rw [if_neg h1]
  have:¬ j=i:=fun e=>h1 (by rw [e])
  simp [this]
def zW:List Nat:=List.replicate 16 0
theorem zW_ok:OkW zW:=⟨by simp [zW],fun w hw=>by rw [List.eq_of_mem_replicate hw]; exact Nat.two_pow_pos 64⟩
theorem has_z (j:Nat):has zW j=false:=by
 have:wd zW (j / 64)=0:=by
  unfold wd zW
  cases e:(List.replicate 16 0)[j / 64]? with
  | none=>rfl
  | some w=>exact List.eq_of_mem_replicate (List.mem_of_getElem? e)
 unfold has
 rw [this]; simp
set_option maxRecDepth 20000
def setC (W:List Nat):List Value:=W.map fun n=>Value.int .u64 (Int.ofNat n)
abbrev setV (W:List Nat):Value:=.agg ⟨setC W⟩
theorem setC_len {W:List Nat} (h:OkW W):(setC W).length=16:=by unfold setC; rw [List.length_map]; exact h.len
theorem setC_get {W:List Nat} (h:OkW W) {k:Nat} (hk:k<16):(setC W)[k]? =some (.int .u64 (wd W k:Int)):=by
 unfold setC wd
 rw [List.getElem?_map]
 have:k<W.length:=by rw [h.len]; exact hk
 rw [List.getElem?_eq_getElem this]; rfl
theorem setC_at {W:List Nat} (h:OkW W) {k:Nat} (hk:k<(setC W).length):(setC W)[k]= .int .u64 (wd W k:Int):=by
 have:=setC_get h (k:=k) (by rw [setC_len h] at hk; exact hk)
 rw [List.getElem?_eq_getElem hk] at this
 exact Option.some.inj this
theorem setC_set (W:List Nat) (k w:Nat):(setC W).set k (.int .u64 (w:Int))=setC (W.set k w):=by unfold setC; rw [List.map_set]; rfl
theorem setC_all {W:List Nat} (x:Value) (hx:x∈setC W):one x=true:=by
 obtain ⟨n,_,rfl⟩:=List.mem_map.1 hx
 rfl
theorem setC_allT (W:List Nat):(∀ x,x∈setC W→one x=true)=True:=eq_true setC_all
theorem setC_one (W:List Nat):(setC W).all one=true:=List.all_eq_true.2 setC_all
theorem setC_take {W:List Nat} (h:OkW W):(setC W).take 16=setC W:=List.take_of_length_le (by rw [setC_len h]; exact Nat.le_refl _)
theorem setC_sto {W:List Nat} (h:OkW W) {cs:List Value} (hc:cs.length=16) (e:Nat) (op:Bool):stO 16 0 (setV W) (some ⟨cs,e,op,1⟩)=some ⟨setC W,e,op,1⟩:=by
 rw [stO_agg,if_pos ⟨setC_len h,setC_one W,by rw [setC_len h,hc]; exact Nat.le_refl _⟩]
 simp [overw,setC_len h,hc]
theorem ofN64 (n:Nat):BitVec.ofInt 64 (n:Int)=BitVec.ofNat 64 n:=BitVec.ofInt_natCast 64 n
theorem wrap_nat {n:Nat} (h:n<2 ^ 64):IntKind.wrap .u64 (n:Int)=(n:Int):=by
 simp only [IntKind.wrap,IntKind.bits,IntKind.signed,Bool.false_and]
 simp
 omega
theorem and_nat {a b:Nat} (ha:a<2 ^ 64) (hb:b<2 ^ 64):andI .u64 (a:Int) (b:Int)=((a &&& b:Nat):Int):=by
 show IntKind.wrap .u64 (((BitVec.ofInt 64 (a:Int) &&& BitVec.ofInt 64 (b:Int)).toNat:Nat):Int)=_
 rw [ofN64,ofN64,BitVec.toNat_and,BitVec.toNat_ofNat,BitVec.toNat_ofNat,Nat.mod_eq_of_lt ha,Nat.mod_eq_of_lt hb,wrap_nat (Nat.lt_of_le_of_lt Nat.and_le_left ha)]
theorem or_nat {a b:Nat} (ha:a<2 ^ 64) (hb:b<2 ^ 64):orI .u64 (a:Int) (b:Int)=((a ||| b:Nat):Int):=by
 show IntKind.wrap .u64 (((BitVec.ofInt 64 (a:Int) ||| BitVec.ofInt 64 (b:Int)).toNat:Nat):Int)=_
 rw [ofN64,ofN64,BitVec.toNat_or,BitVec.toNat_ofNat,BitVec.toNat_ofNat,Nat.mod_eq_of_lt ha,Nat.mod_eq_of_lt hb,wrap_nat (Nat.or_lt_two_pow ha hb)]
theorem andNot_nat {a b:Nat} (ha:a<2 ^ 64) (hb:b<2 ^ 64):andNotI .u64 (a:Int) (b:Int)=((a &&& (2 ^ 64 - (b+1)):Nat):Int):=by
 show IntKind.wrap .u64 (((BitVec.ofInt 64 (a:Int) &&& ~~~ BitVec.ofInt 64 (b:Int)).toNat:Nat):Int)=_
 rw [ofN64,ofN64,BitVec.toNat_and,BitVec.toNat_not,BitVec.toNat_ofNat,BitVec.toNat_ofNat,Nat.mod_eq_of_lt ha,Nat.mod_eq_of_lt hb,wrap_nat (Nat.lt_of_le_of_lt Nat.and_le_left ha)]
 have:2 ^ 64 - 1 - b=2 ^ 64 - (b+1):=by omega
 rw [this]
theorem shl_nat {r:Nat} (h:r<64):shlI .u64 1 (r:Int)=((2 ^ r:Nat):Int):=by
 show IntKind.wrap .u64 (1*2 ^ (min (r:Int).toNat 64))=_
 rw [Int.toNat_natCast,Nat.min_eq_left (by omega),Int.one_mul]
 have:(2:Int) ^ r=((2 ^ r:Nat):Int):=by simp
 rw [this,wrap_nat (pow_lt64 h)]
theorem shr_nat {w r:Nat} (h:r<64):shrI .u64 (w:Int) (r:Int)=((w >>> r:Nat):Int):=by
 show (w:Int).fdiv (2 ^ (min (r:Int).toNat 64))=_
 rw [Int.toNat_natCast,Nat.min_eq_left (by omega),Nat.shiftRight_eq_div_pow]
 have:(2:Int) ^ r=((2 ^ r:Nat):Int):=by simp
 rw [this,Int.fdiv_eq_ediv_of_nonneg _ (Int.natCast_nonneg _)]
 exact (Int.natCast_ediv w (2 ^ r)).symm
theorem quo_nat {i:Nat} (h:i<1024):Int.tdiv (i:Int) 64=((i / 64:Nat):Int):=rfl
theorem rem_nat {i:Nat} (h:i<1024):Int.tmod (i:Int) 64=((i % 64:Nat):Int):=rfl
section
variable {G:GS} {W:List Nat} {i:Nat}
theorem inside_ok (orc:FuncId→Bool) (i:Int) (G:GS):(E orc).cl 183 [.int .i64 i] G=some (.bool (decide (0≤i∧i<1024)),G):=by
 refine f183 (exL_ok Q orc) _ G _ ?_
 by_cases h:0≤i
 ·simp [s183,h]
 ·simp [s183,h]
theorem with_ok (orc:FuncId→Bool) (h:OkW W) (hi:i<1024) (G:GS):∃ G',(E orc).cl 235 [setV W,.int .i64 i] G=some (setV (withW W i),G')∧Ext G G':=by
 obtain ⟨k,hk⟩:∃ k,i / 64=k:=⟨_,rfl⟩
 obtain ⟨r,hr⟩:∃ r,i % 64=r:=⟨_,rfl⟩
 have hk16:k<16:=by omega
 have hr64:r<64:=by omega
 have q1:=quo_nat hi
 have q2:=rem_nat hi
 rw [hk] at q1
 rw [hr] at q2
 have w1:IntKind.wrap .i64 (k:Int)=k:=wrap64 (by omega) (by omega)
 have w2:IntKind.wrap .i64 (r:Int)=r:=wrap64 (by omega) (by omega)
 have sh':shlI .u64 1 (r:Int)=2 ^ r:=by rw [shl_nat hr64]; simp
 have hw:=h.with i
 obtain ⟨z,hz⟩:∃ z,z=wd W k ||| 2 ^ r:=⟨_,rfl⟩
 have o1:orI .u64 (wd W k:Int) (2 ^ r)=(z:Int):=by
  have:=or_nat (h.wd k) (pow_lt64 hr64)
  rw [hz,← this]; simp
 have e:setC (withW W i)=(setC W).set k (.int .u64 (z:Int)):=by rw [setC_set,hz]; unfold withW; rw [hk,hr]
 have hl:=setC_len h
 have hk0:(0:Int)≤k:=by omega
 have hk1:(k:Int)<16:=by omega
 have hr0:¬ (r:Int)<0:=by omega
 have hl':=setC_len hw
 have w:Wp ((E orc).cl 235 [setV W,.int .i64 i] G) fun q=>q.1=setV (withW W i)∧Ext G q.2:=by
  refine Wp.ref (f235 (exL_ok Q orc) _ _ G) ?_
  simp [s235,q1,q2,w1,w2,hl,hk0,hk1,hr0,setC_get h hk16,setC_at h,sh',o1,hk16,← e,hl',setC_take hw,setC_allT]
  exact ((((((Ext.refl G).push _).push _).room 10).put (Nat.le_refl _) _).put (by omega) _)
 obtain ⟨⟨v,G'⟩,e1,rfl,x⟩:=w
 exact ⟨G',e1,x⟩
theorem wo_ok (orc:FuncId→Bool) (h:OkW W) (hi:i<1024) (G:GS):∃ G',(E orc).cl 179 [setV W,.int .i64 i] G=some (setV (woW W i),G')∧Ext G G':=by
 obtain ⟨k,hk⟩:∃ k,i / 64=k:=⟨_,rfl⟩
 obtain ⟨r,hr⟩:∃ r,i % 64=r:=⟨_,rfl⟩
 have hk16:k<16:=by omega
 have hr64:r<64:=by omega
 have q1:=quo_nat hi
 have q2:=rem_nat hi
 rw [hk] at q1
 rw [hr] at q2
 have w1:IntKind.wrap .i64 (k:Int)=k:=wrap64 (by omega) (by omega)
 have w2:IntKind.wrap .i64 (r:Int)=r:=wrap64 (by omega) (by omega)
 have sh':shlI .u64 1 (r:Int)=2 ^ r:=by rw [shl_nat hr64]; simp
 have hw:=h.wo i
 obtain ⟨z,hz⟩:∃ z,z=wd W k &&& (2 ^ 64 - (2 ^ r+1)):=⟨_,rfl⟩
 have o1:andNotI .u64 (wd W k:Int) (2 ^ r)=(z:Int):=by
  have:=andNot_nat (h.wd k) (pow_lt64 hr64)
  rw [hz,← this]; simp
 have e:setC (woW W i)=(setC W).set k (.int .u64 (z:Int)):=by rw [setC_set,hz]; unfold woW; rw [hk,hr]
 have hl:=setC_len h
 have hk0:(0:Int)≤k:=by omega
 have hk1:(k:Int)<16:=by omega
 have hr0:¬ (r:Int)<0:=by omega
 have hl':=setC_len hw
 have w:Wp ((E orc).cl 179 [setV W,.int .i64 i] G) fun q=>q.1=setV (woW W i)∧Ext G q.2:=by
  refine Wp.ref (f179 (exL_ok Q orc) _ _ G) ?_
  simp [s179,q1,q2,w1,w2,hl,hk0,hk1,hr0,setC_get h hk16,setC_at h,sh',o1,hk16,← e,hl',setC_take hw,setC_allT]
  exact ((((((Ext.refl G).push _).push _).room 10).put (Nat.le_refl _) _).put (by omega) _)
 obtain ⟨⟨v,G'⟩,e1,rfl,x⟩:=w
 exact ⟨G',e1,x⟩
theorem has_ok (orc:FuncId→Bool) (h:OkW W) (hi:i<1024) (G:GS):∃ G',(E orc).cl 184 [setV W,.int .i64 i] G=some (.bool (has W i),G')∧Ext G G':=by
 obtain ⟨k,hk⟩:∃ k,i / 64=k:=⟨_,rfl⟩
 obtain ⟨r,hr⟩:∃ r,i % 64=r:=⟨_,rfl⟩
 have hk16:k<16:=by omega
 have hr64:r<64:=by omega
 have q1:=quo_nat hi
 have q2:=rem_nat hi
 rw [hk] at q1
 rw [hr] at q2
 have w1:IntKind.wrap .i64 (k:Int)=k:=wrap64 (by omega) (by omega)
 have w2:IntKind.wrap .i64 (r:Int)=r:=wrap64 (by omega) (by omega)
 have hsh:=shr_nat (w:=wd W k) hr64
 obtain ⟨z,hz⟩:∃ z,z=wd W k >>> r:=⟨_,rfl⟩
 rw [← hz] at hsh
 have hzl:z<2 ^ 64:=by rw [hz,Nat.shiftRight_eq_div_pow]; exact Nat.lt_of_le_of_lt (Nat.div_le_self _ _) (h.wd k)
 have ha:andI .u64 (z:Int) 1=((z % 2:Nat):Int):=by
  have:=and_nat hzl (show 1<2 ^ 64 by decide)
  rw [Nat.and_one_is_mod] at this
  exact this
 have hh:decide (((z % 2:Nat):Int)=1)=has W i:=by
  unfold has
  rw [hk,hr,Nat.testBit,← hz,Nat.one_and_eq_mod_two,Bool.eq_iff_iff]
  have:=Nat.mod_two_eq_zero_or_one z
  simp only [decide_eq_true_eq,bne_iff_ne,ne_eq]
  omega
 have hk0:(0:Int)≤k:=by omega
 have hk1:(k:Int)<16:=by omega
 have hr0:¬ (r:Int)<0:=by omega
 have w:Wp ((E orc).cl 184 [setV W,.int .i64 i] G) fun q=>q.1= .bool (has W i)∧Ext G q.2:=by
  refine Wp.ref (f184 (exL_ok Q orc) _ _ G) ?_
  rw [← hh]
  simp [-Int.natCast_emod,s184,q1,q2,w1,w2,setC_len h,hk0,hk1,hr0,setC_get h hk16,setC_at h,hsh,ha,hk16]
  exact (Ext.refl G).push _
 obtain ⟨⟨v,G'⟩,e1,rfl,x⟩:=w
 exact ⟨G',e1,x⟩
end
structure Tab (G:GS):Prop where
 ob:tabs G=true
 nx:2≤G.nx
theorem Tab.of {G G':GS} (h:Tab G) (h0:G'.obj 0=G.obj 0) (h1:G'.obj 1=G.obj 1) (n:G.nx≤G'.nx):Tab G' :=
 ⟨by have:=h.ob; unfold tabs at this ⊢; rw [h0,h1]; exact this,Nat.le_trans h.nx n⟩
theorem Tab.ext {G G':GS} (h:Tab G) (x:Ext G G'):Tab G':=h.of (x.obj 0 (by have:=h.nx; omega)) (x.obj 1 (by have:=h.nx; omega)) x.nx
theorem ctz_ok (orc:FuncId→Bool) {G:GS} (h:Tab G) {n i:Nat} (hl:Low n i) (hn:n<2 ^ 64):(E orc).cl 237 [.int .u64 (n:Int)] G=some (.int .i64 (i:Int),G):=by
 rw [← hl.ctz hn]
 exact cl_pur Q orc (by kernel_rfl) h.ob hn
abbrev yl (l:Nat):Value:=.func (.yield l) #[] #[]
section
variable {W:List Nat} {l:Nat} {Inv:List Nat→GS→Prop} {Fin:GS→Prop}
def RdOk (orc:FuncId→Bool) (W:List Nat) (l:Nat) (Inv:List Nat→GS→Prop) (Fin:GS→Prop):Prop :=
 ∀ (L:List Nat) (i:Nat) (R:List Nat) (G:GS),L++i::R=els W→Inv L G→Wp ((E orc).rd l [.int .i64 (i:Int)] G) fun q=>(q.1= .bool true∧Inv (L++[i]) q.2)∨(q.1= .bool false∧Fin q.2)
theorem alli_lp (orc:FuncId→Bool) (hrd:RdOk orc W l Inv Fin) (ht:∀ L G,Inv L G→Tab G) {k:Nat} (hk:k<16):∀ (m n:Nat) (τ:Env) (G:GS) (L R:List Nat),(bitsW n).length=m→n<2 ^ 64→τ 0=yl l→τ 3= .int .i64 (k:Int)→τ 4= .int .u64 (n:Int)→L++((bitsW n).map (k*64+·)++R)=els W→Inv L G →
  Wp ((exL Q orc).lpx 236 1 τ G) fun q=>(q.1= .exit 2∧Inv (L++(bitsW n).map (k*64+·)) q.2.2∧q.2.1 0=τ 0∧q.2.1 5=τ 5∧q.2.1 6=τ 6)∨(q.1= .ret∧Fin q.2.2):=by
 intro m
 induction m with
 | zero =>
  intro n τ G L R hm hn t0 t3 t4 hE hi
  have h0:n=0:=by
   rcases Nat.eq_zero_or_pos n with h | h
   ·exact h
   ·obtain ⟨i,hl⟩:=low_of (by omega:n≠0)
    rw [bits_low hl hn] at hm; simp at hm
  subst h0
  refine Wp.lp (l236_1 (exL_ok Q orc)) ?_
  simp [b236_1,clip_t,t0,t3,t4,bits_zero]
  exact hi
 | succ m ih =>
  intro n τ G L R hm hn t0 t3 t4 hE hi
  have h0:n≠0:=fun e=>by rw [e,bits_zero] at hm; simp at hm
  obtain ⟨i,hl⟩:=low_of h0
  have hi64:=hl.lt hn
  have hb:=bits_low hl hn
  have h0':¬ (n:Int)=0:=by omega
  have e1:=ctz_ok orc (ht _ _ hi) hl hn
  have m1:IntKind.wrap .i64 ((k:Int)*64)=((k*64:Nat):Int):=wrap64 (by omega) (by omega)
  have m2:IntKind.wrap .i64 (((k*64:Nat):Int)+(i:Int))=((k*64+i:Nat):Int):=wrap64 (by omega) (by omega)
  have m3:IntKind.wrap .u64 ((n:Int) - 1)=((n - 1:Nat):Int):=by
   have:(n:Int) - 1=((n - 1:Nat):Int):=by omega
   rw [this]; exact wrap_nat (by omega)
  have m4:=and_nat hn (show n - 1<2 ^ 64 by omega)
  rw [hb] at hE
  obtain ⟨⟨v,G1⟩,e2,hq⟩:=hrd L (k*64+i) ((bitsW (n &&& (n - 1))).map (k*64+·)++R) G (by simpa using hE) hi
  simp only at hq
  rcases hq with ⟨rfl,hq⟩ | ⟨rfl,hq⟩
  ·refine Wp.lp (l236_1 (exL_ok Q orc)) ?_
   simp [-Int.natCast_add,-Int.natCast_mul,b236_1,clip_t,t0,t3,t4,h0,h0',e1,m1,m2,e2,m3,m4]
   refine Wp.mono (ih (n &&& (n - 1)) _ G1 (L++[k*64+i]) R (by rw [hb] at hm; simpa using hm) (Nat.lt_of_le_of_lt Nat.and_le_left hn) ?_ ?_ ?_ (by simpa using hE) hq) ?_
   ·simp [clip_t]
   ·simp [clip_t]
   ·simp [clip_t]
   ·rintro q (⟨q1,q2,q3,q4,q5⟩ | ⟨q1,q2⟩)
    ·refine .inl ⟨q1,by rw [hb]; simpa using q2,by rw [q3]; simp [clip_t,t0],by rw [q4]; simp [clip_t],by rw [q5]; simp [clip_t]⟩
    ·exact .inr ⟨q1,q2⟩
  ·refine Wp.lp (l236_1 (exL_ok Q orc)) ?_
   simp [-Int.natCast_add,-Int.natCast_mul,b236_1,clip_t,t0,t3,t4,h0,h0',e1,m1,m2,e2,m3,m4]
   exact hq
theorem ix_set (hW:OkW W) {i:Nat} (hi:i<16) (t:TypeId) (k:IntKind):ix Q true t 16 (setV W) (.int k (i:Int))=some (.int .u64 (wd W i:Int)):=by
 show inn (i:Int) 16 (fun j=>getN (setC W) j)=_
 rw [inn_eq,if_pos (by omega),Int.toNat_natCast,getN_eq]
 exact setC_get hW hi
theorem allo_lp (orc:FuncId→Bool) (hW:OkW W) (hrd:RdOk orc W l Inv Fin) (ht:∀ L G,Inv L G→Tab G):∀ (j i:Nat) (τ:Env) (G:GS) (L:List Nat),i+j=16→τ 0=yl l→τ 5=setV W→τ 6= .int .i64 (i:Int)→L++(List.range' i j).flatMap (elsW W)=els W→Inv L G →
  Wp ((exL Q orc).lpx 236 0 τ G) fun q=>(q.1= .exit 0∧Inv (els W) q.2.2)∨(q.1= .ret∧Fin q.2.2):=by
 intro j
 induction j with
 | zero =>
  intro i τ G L hj t0 t5 t6 hE hi
  have:i=16:=by omega
  subst this
  refine Wp.lp (l236_0 (exL_ok Q orc)) ?_
  simp [b236_0,clip_t,t0,t5,t6]
  simpa [← hE] using hi
 | succ j ih =>
  intro i τ G L hj t0 t5 t6 hE hi
  have hi16:i<16:=by omega
  have hi0:(i:Int)<16:=by omega
  have hi1:(0:Int)≤i:=by omega
  have hw:IntKind.wrap .i64 ((i:Int)+1)=((i+1:Nat):Int):=wrap64 (by omega) (by omega)
  rw [List.range'_succ,List.flatMap_cons] at hE
  refine Wp.lp (l236_0 (exL_ok Q orc)) ?_
  simp [-Int.natCast_add,b236_0,clip_t,t0,t5,t6,hi0,hi1,ix_set hW hi16]
  refine Wp.bE (Wp.mono (alli_lp orc hrd ht hi16 _ (wd W i) _ G L ((List.range' (i+1) j).flatMap (elsW W)) rfl (hW.wd i) ?_ ?_ ?_ hE hi) ?_)
  ·simp [clip_t,t0]
  ·simp [clip_t]
  ·simp [clip_t]
  ·rintro ⟨e,τ',G'⟩ (⟨q1,q2,q3,q4,q5⟩ | ⟨q1,q2⟩)
   ·simp only at q1 q2 q3 q4 q5
    subst q1
    simp [clip_t,t0,t5,t6] at q3 q4 q5
    simp [-Int.natCast_add,q3,q4,q5,hw]
    refine Wp.mono (ih (i+1) _ G' (L++elsW W i) (by omega) ?_ ?_ ?_ (by simpa using hE) q2) fun q hq=>hq
    ·simp [clip_t,q3]
    ·simp [clip_t,q4]
    ·simp [clip_t]
   ·simp only at q1 q2
    subst q1
    simp
    exact q2
theorem all1_ok (orc:FuncId→Bool) (hW:OkW W) (hrd:RdOk orc W l Inv Fin) (ht:∀ L G,Inv L G→Tab G) {sb:Nat} {G:GS} (hs:G.obj sb=some ⟨setC W,1,false,1⟩) (hi:Inv [] G) :
  Wp ((E orc).cl 236 [yl l,P0 sb] G) fun q=>q.1= .tuple #[]∧(Inv (els W) q.2∨Fin q.2):=by
 refine Wp.ref (f236 (exL_ok Q orc) _ _ G) ?_
 simp [s236,hs,setC_len hW,setC_take hW]
 refine Wp.bE (Wp.mono (allo_lp orc hW hrd ht 16 0 _ G [] rfl ?_ ?_ ?_ (by simpa using els_flat W) hi) ?_)
 ·simp
 ·simp
 ·simp
 ·rintro ⟨e,τ',G'⟩ (⟨q1,q2⟩ | ⟨q1,q2⟩)
  ·simp only at q1 q2
   subst q1
   simp
   exact .inl q2
  ·simp only at q1 q2
   subst q1
   simp
   exact .inr q2
end
noncomputable abbrev lpL (T:List Value):Lp:=⟨.ready,none,T,[9],(subAt [1,1,0,1,0,0] (bodyOf Tryz.f180)),(subAt [1,1,0,1,0,1] (bodyOf Tryz.f180))⟩
section
variable {B G:GS} {ob l nb:Nat} {T:List Value} {L:List Int} {W:List Nat}
theorem lrd_ok (orc:FuncId→Bool) (i:Int) (hT:T.length=19) (t3:nth undef T 3=P0 nb) (t5:nth undef T 5=P0 ob) (hnb:nb<B.nx) (hne:nb≠ob) (onb:B.obj nb=some ⟨[.int .i64 1024],1,false,1⟩)
  (hc:Col (rowsI .i64) B ob l (lpL T) G L) (hL:L.length<1024) :
  Wp ((E orc).rd l [.int .i64 i] G) fun q=>q.1= .bool true∧Col (rowsI .i64) B ob l (lpL T) q.2 (L++[i]):=by
 refine Wp.ref (d180_0 (exL_ok Q orc) l T _ G hc.lp hT) ?_
 have c0:=hc.lp' (Lp.setSt (lpL T) .busy)
 have o1:=(c0.obj nb hnb hne).trans onb
 obtain ⟨w,w1,w2⟩:=c0.var
 have lw:∀ t,ln Q true t w=some (.int .i64 L.length):=fun t=>by obtain ⟨a,c,rfl⟩:=w2.is.len; simp
 have hL':¬ (1024:Int)≤L.length:=by omega
 have c1:=c0.ext ((Ext.refl _).push ⟨(rowsI .i64).row i,1,false,1⟩)
 obtain ⟨v1,v2,G4,o1',on1,e3,on2,o2,l2,c4⟩:=c1.app (ib:=8) (by decide) (SlR.one (rowsI .i64) (G.putLoop l (Lp.setSt (lpL T) .busy)) i) (by simp) (by simp; omega)
 have hne2:ob≠G.nx:=by have:=hc.obB; have:=hc.nx; omega
 simp only [obj_putLoop] at o1 w1
 have o3:(((G.putLoop l (Lp.setSt (lpL T) .busy)).push ⟨(rowsI .i64).row i,1,false,1⟩)).obj ob=G.obj ob:=by simp [hne2]
 rw [o3,w1] at o1'
 simp only [Option.some.injEq,GObj.mk.injEq,List.cons.injEq,and_true] at o1'
 subst o1'
 simp only [rowsI_sz,rowsI_row,nx_putLoop] at e3
 have hrd:(roundEnd l .normal (G4.put ob ⟨[v2],1,false,1⟩))=some (.bool true,(G4.put ob ⟨[v2],1,false,1⟩).putLoop l (lpL T)):=by
  rw [roundEnd_some l .normal _ (j:=none) rfl (r:=Lp.setSt (lpL T) .busy) (by simpa using l2)]
  rfl
 simp [r180_0,t3,t5,hc.lp,o1,w1,lw,hL',e3,o2,stO_one _ _ on2,hrd,same_own w2]
 exact c4.lp' (lpL T)
theorem els_len (W:List Nat):(els W).length≤1024:=by
 have:=List.length_filter_le (has W) (List.range 1024)
 simpa [els] using this
theorem setAll_ok (orc:FuncId→Bool) (W:List Nat) (G:GS):(E orc).cl 178 [setV W] G=some (.func (.func 236) #[] #[P0 G.nx],G.push ⟨setC W,1,false,1⟩):=by
 refine f178 (exL_ok Q orc) _ G _ ?_
 simp [s178]
theorem list_ok (orc:FuncId→Bool) (hW:OkW W) (hG:Tab G):∃ v G',(E orc).cl 180 [setV W,.int .i64 1024] G=some (v,G')∧Ext G G' ∧OwR (rowsI .i64) G.nx G' v ((els W).map fun n:Nat=>(n:Int)):=by
 have w:Wp ((E orc).cl 180 [setV W,.int .i64 1024] G) fun q=>Ext G q.2∧OwR (rowsI .i64) G.nx q.2 q.1 ((els W).map fun n:Nat=>(n:Int)):=by
  refine Wp.ref (f180 (exL_ok Q orc) _ _ G) ?_
  have d0:¬ G.nx=G.nx+1+1:=by omega
  simp [s180,setC_len hW,setC_take hW,setAll_ok,d0]
  generalize hTT:lst 19 (tu (nth undef _) _)=T
  have hT:T.length=19:=by rw [← hTT]; exact length_lst 19 _
  have t3:nth undef T 3=P0 (G.nx+1):=by rw [← hTT,nth_lst]; simp [clip_t]
  have t5:nth undef T 5=P0 (G.nx+2):=by rw [← hTT,nth_lst]; simp [clip_t]
  clear hTT
  generalize hG3:(GS.push (GS.push _ _) _)=G3
  have x3:Ext G G3:=by rw [← hG3]; exact (((((Ext.refl G).push _).push _).push _)).push _
  have n3:G3.nx=G.nx+4:=by rw [← hG3]; rfl
  have l3:G3.nl=G.nl:=by rw [← hG3]; rfl
  have q1:G3.obj (G.nx+1)=some ⟨[.int .i64 1024],1,false,1⟩:=by rw [← hG3]; simp [Nat.add_assoc]
  have q2:G3.obj (G.nx+2)=some ⟨[.slice none 0 0],1,false,1⟩:=by rw [← hG3]; simp [Nat.add_assoc]
  have q3:G3.obj (G.nx+3)=some ⟨setC W,1,false,1⟩:=by rw [← hG3]; simp [Nat.add_assoc]
  have c0:=Col.begin (rowsI .i64) q2 (by omega) (lpL T)
  rw [l3] at c0
  have xB:Ext G3 (G3.pushLoop (lpL T)):=(Ext.refl G3).pushLoop _
  have hTb:Tab (G3.pushLoop (lpL T)):=hG.ext (x3.trans xB)
  have hrd:RdOk orc W G.nl (fun L G'=>Col (rowsI .i64) (G3.pushLoop (lpL T)) (G.nx+2) G.nl (lpL T) G' (L.map fun n:Nat=>(n:Int))) (fun _=>False):=by
   intro L i R G' hE hc
   have hl:=els_len W
   rw [← hE] at hl
   simp at hl
   refine (lrd_ok orc (nb:=G.nx+1) (i:Int) hT t3 t5 (by simp; omega) (by omega) (by simpa using q1) hc (by simp; omega)).mono ?_
   rintro q ⟨h1,h2⟩
   exact .inl ⟨h1,by simpa using h2⟩
  have htab:∀ (L:List Nat) (G':GS),Col (rowsI .i64) (G3.pushLoop (lpL T)) (G.nx+2) G.nl (lpL T) G' (L.map fun n:Nat=>(n:Int))→Tab G':=fun L G' hc=>by
   exact hTb.of (hc.obj 0 (by have:=hTb.nx; omega) (by have:=hG.nx; omega)) (hc.obj 1 (by have:=hTb.nx; omega) (by have:=hG.nx; omega)) hc.nx
  obtain ⟨⟨q,G4⟩,e5,rfl,c5⟩:=all1_ok orc hW hrd htab (sb:=G.nx+3) (G:=G3.pushLoop (lpL T)) (by simpa using q3) (by simpa using c0)
  simp only [or_false] at c5
  simp only [E] at e5
  obtain ⟨u,u1,u2⟩:=c5.var
  simp [e5]
  rw [xRangeEnd_some (r:=lpL T) _ _ _ _ c5.lp (by simp) (e:=.normal) rfl]
  simp [t5,u1]
  have y3:=x3.trans xB
  refine ⟨(c5.from y3 (by omega) (Nat.le_refl _)).putLoop (Nat.le_refl _) _,?_⟩
  exact (u2.mono y3.nx).kept (by simp) fun g _=>by simp
 obtain ⟨⟨v,G'⟩,e,e1,e2⟩:=w
 exact ⟨v,G',e,e1,e2⟩
end
def inI (x:Int):Bool:=decide (0≤x∧x<1024)
def stepW (W:List Nat) (x:Int):List Nat:=if inI x=true then withW W x.toNat else W
def ofW (l:List Int):List Nat:=l.foldl stepW zW
theorem stepW_ok {W:List Nat} (h:OkW W) (x:Int):OkW (stepW W x):=by unfold stepW; split; exact h.with _; exact h
theorem foldW_ok:∀ (l:List Int) {W:List Nat},OkW W→OkW (l.foldl stepW W)
 | [],_,h=>h
 | x::l,_,h=>foldW_ok l (stepW_ok h x)
theorem ofW_ok (l:List Int):OkW (ofW l):=foldW_ok l zW_ok
theorem has_step {W:List Nat} (h:OkW W) (x:Int) {j:Nat} (hj:j<1024):has (stepW W x) j=(has W j||decide ((j:Int)=x)):=by
 unfold stepW inI
 by_cases hx:0≤x∧x<1024
 ·rw [if_pos (by simpa using hx),has_with h (by omega)]
  congr 1
  rw [Bool.eq_iff_iff]; simp; omega
 ·rw [if_neg (by simpa using hx)]
  have:¬ (j:Int)=x:=by omega
  simp [this]
theorem has_fold:∀ (l:List Int) {W:List Nat},OkW W→∀ {j:Nat},j<1024→has (l.foldl stepW W) j=(has W j||decide ((j:Int)∈l))
 | [],W,h,j,hj=>by simp
 | x::l,W,h,j,hj=>by
  rw [List.foldl_cons,has_fold l (stepW_ok h x) hj,has_step h x hj,Bool.or_assoc]
  congr 1
  rw [Bool.eq_iff_iff]; simp
theorem has_of (l:List Int) {j:Nat} (hj:j<1024):has (ofW l) j=decide ((j:Int)∈l):=by
 unfold ofW
 rw [has_fold l zW_ok hj,has_z]; simp
section
variable {G B:GS} {W:List Nat} {A:List Int} {v0:Value}
theorem of_lp (orc:FuncId→Bool) {sb rb:Nat} (hA:SlR (rowsI .i64) B v0 A) (hlen:A.length<2 ^ 47) (hsb:B.nx≤sb) (hrs:rb≠sb):∀ (k i:Nat) (τ:Env) (G:GS) (W:List Nat),i+k=A.length→τ 2=P0 rb→τ 3=P0 sb→τ 6=v0→τ 7= .int .i64 A.length→τ 8= .int .i64 (i:Int)→OkW W→Ext B G→sb<G.nx→rb<G.nx→G.obj sb=some ⟨setC W,1,false,1⟩→G.obj rb=some ⟨setC zW,1,false,1⟩ →
  Wp ((exL Q orc).lpx 177 0 τ G) fun q=>q.1= .exit 0∧Ext B q.2.2∧q.2.2.obj sb=some ⟨setC ((A.drop i).foldl stepW W),1,false,1⟩∧q.2.2.obj rb=some ⟨setC zW,1,false,1⟩∧q.2.1 2=P0 rb∧q.2.1 3=P0 sb:=by
 intro k
 induction k with
 | zero =>
  intro i τ G W hi t2 t3 t6 t7 t8 hW x hs hr os or
  have hi':i=A.length:=by omega
  obtain ⟨a,c,e0⟩:=hA.len
  refine Wp.lp (l177_0 (exL_ok Q orc)) ?_
  subst hi'
  simp [b177_0,clip_t,t2,t3,t6,t7,t8]
  exact ⟨x,os,or⟩
 | succ k ih =>
  intro i τ G W hi t2 t3 t6 t7 t8 hW x hs hr os or
  have hlt:i<A.length:=by omega
  have hw:IntKind.wrap .i64 ((i:Int)+1)=((i+1:Nat):Int):=wrap64 (by omega) (by omega)
  have h1:(i:Int)<A.length:=by omega
  have h2:(0:Int)≤i:=by omega
  obtain ⟨b,o,c,e0,_,q,_⟩:=(hA.ext x).at hlt
  have q0:=q 0 (by decide)
  simp at q0
  rw [List.drop_eq_getElem_cons hlt,List.foldl_cons]
  generalize A[i]=y at *
  by_cases hy:0≤y∧y<1024
  ·have hy':inI y=true:=by simpa [inI] using hy
   obtain ⟨n,rfl⟩:=Int.eq_ofNat_of_zero_le hy.1
   have hn:n<1024:=by omega
   obtain ⟨G1,e1,x1⟩:=with_ok orc hW hn G
   have hst:stepW W (n:Int)=withW W n:=by unfold stepW; rw [if_pos hy']; rfl
   rw [hst]
   have os1:=(x1.obj sb hs).trans os
   have or1:=(x1.obj rb hr).trans or
   have n1:=x1.nx
   refine Wp.lp (l177_0 (exL_ok Q orc)) ?_
   simp [-Int.natCast_add,b177_0,clip_t,t2,t3,t6,t7,t8,e0,h1,h2,hlt,q0,inside_ok,hn,hy.2,os,setC_len hW,setC_take hW,e1,os1,setC_sto (hW.with n) (setC_len hW),hw]
   refine ih (i+1) _ (G1.put sb ⟨setC (withW W n),1,false,1⟩) (withW W n) (by omega) ?_ ?_ ?_ ?_ ?_ (hW.with n) ((x.trans x1).put hsb _) (by simp; omega) (by simp; omega) (by simp) (by simp [hrs,or1])<;>simp [clip_t,e0,t2,t3]
  ·have hst:stepW W y=W:=by unfold stepW; rw [if_neg (by simpa [inI] using hy)]
   rw [hst]
   have hd:(decide (0≤y)&&decide (y<1024))=false:=by rw [Bool.and_eq_false_iff]; simp; omega
   refine Wp.lp (l177_0 (exL_ok Q orc)) ?_
   simp [-Int.natCast_add,b177_0,clip_t,t2,t3,t6,t7,t8,e0,h1,h2,hlt,q0,inside_ok]
   rw [hd]
   simp [-Int.natCast_add,hw]
   refine ih (i+1) _ _ W (by omega) ?_ ?_ ?_ ?_ ?_ hW x hs hr os or<;>simp [clip_t,e0,t2,t3]
theorem of_ok (orc:FuncId→Bool) (hA:SlR (rowsI .i64) G v0 A) (hlen:A.length<2 ^ 47):∃ G',(E orc).cl 177 [v0] G=some (setV (ofW A),G')∧Ext G G':=by
 obtain ⟨a,c,e0⟩:=hA.len
 have l0:ln Q true 35 v0=some (.int .i64 A.length):=by rw [e0]; simp
 have w:Wp ((E orc).cl 177 [v0] G) fun q=>q.1=setV (ofW A)∧Ext G q.2:=by
  refine Wp.ref (f177 (exL_ok Q orc) _ G) ?_
  have x0:Ext G ((G.push ⟨z276,1,false,1⟩).push ⟨z276,1,false,1⟩):=((Ext.refl G).push _).push _
  simp [s177,l0]
  refine Wp.bE ((of_lp orc (B:=G) (rb:=G.nx) (sb:=G.nx+1) hA hlen (by omega) (by omega) A.length 0 _ _ zW (by omega) (by simp) (by simp) (by simp) (by simp) (by simp) zW_ok x0 (by simp) (by simp; omega) (by simp; rfl) (by simp; rfl)).mono ?_)
  rintro ⟨e,τ,G'⟩ ⟨rfl,x,o1,o2,t2,t3⟩
  simp only [List.drop_zero] at x o1 o2 t2 t3
  have hW:=ofW_ok A
  have o1':G'.obj (G.nx+1)=some ⟨setC (ofW A),1,false,1⟩:=o1
  simp [t2,t3,o1',o2,setC_len hW,setC_take hW,setC_sto hW (setC_len zW_ok)]
  exact x.put (Nat.le_refl _) _
 obtain ⟨⟨v,G'⟩,e,rfl,x⟩:=w
 exact ⟨G',e,x⟩
end
abbrev An:=Int×Int×Int
abbrev Opn:=Int×Int×Int×Int
abbrev anV (a:An):Value:=.agg ⟨[.int .i64 a.1,.int .i64 a.2.1,.int .u64 a.2.2]⟩
abbrev opV (a:Opn):Value:=.agg ⟨[.int .i64 a.1,.int .i64 a.2.1,.int .i64 a.2.2.1,.int .u64 a.2.2.2]⟩
def rAn:RowE An:=⟨3,fun x=>[.int .i64 x.1,.int .i64 x.2.1,.int .u64 x.2.2],fun _=>rfl,fun _=>rfl,by decide⟩
def rOp:RowE Opn:=⟨4,fun x=>[.int .i64 x.1,.int .i64 x.2.1,.int .i64 x.2.2.1,.int .u64 x.2.2.2],fun _=>rfl,fun _=>rfl,by decide⟩
@[simp] theorem rAn_sz:rAn.sz=3:=rfl
@[simp] theorem rAn_row (x:An):rAn.row x=[.int .i64 x.1,.int .i64 x.2.1,.int .u64 x.2.2]:=rfl
@[simp] theorem rOp_sz:rOp.sz=4:=rfl
@[simp] theorem rOp_row (x:Opn):rOp.row x=[.int .i64 x.1,.int .i64 x.2.1,.int .i64 x.2.2.1,.int .u64 x.2.2.2]:=rfl
theorem req_28 (a0 a1 a2 b0 b1 b2:Int):prun Q (Op.equalIn 10000 27 (.agg ⟨[.int .i64 a0,.int .i64 a1,.int .u64 a2]⟩) (.agg ⟨[.int .i64 b0,.int .i64 b1,.int .u64 b2]⟩))=some (a0==b0&&(a1==b1&&(a2==b2&&true))) :=
 eqS (d:=9999) (L:=[(25,0),(3,1),(22,2)]) (by kernel_rfl) (by kernel_rfl) (eqL_cons (a:=.int .i64 a0) (b:=.int .i64 b0) (by kernel_rfl) (by kernel_rfl) (by kernel_rfl) (eqL_cons (a:=.int .i64 a1) (b:=.int .i64 b1) (by kernel_rfl) (by kernel_rfl) (by kernel_rfl) (eqL_cons (a:=.int .u64 a2) (b:=.int .u64 b2) (by kernel_rfl) (by kernel_rfl) (by kernel_rfl) rfl)))
theorem eq_an (x y:Operand) (a b:An):gBinF Q .eql 27 x y (anV a) (anV b)=some (.bool (decide (a=b))):=by
 rw [eql_aggF (op:=.eql) (by kernel_rfl) (by kernel_rfl) (by kernel_rfl) (req_28 a.1 a.2.1 a.2.2 b.1 b.2.1 b.2.2)]
 congr 2
 rw [Bool.eq_iff_iff]
 simp [Prod.ext_iff]
theorem ne_an (x y:Operand) (a b:An):gBinF Q .neq 27 x y (anV a) (anV b)=some (.bool (!decide (a=b))):=by
 rw [neq_aggF (op:=.eql) (by kernel_rfl) (by kernel_rfl) (by kernel_rfl) (req_28 a.1 a.2.1 a.2.2 b.1 b.2.1 b.2.2)]
 congr 2
 rw [Bool.eq_iff_iff]
 simp [Prod.ext_iff]
def ascB:List Int→Bool
 | a::b::r=>decide (a<b)&&ascB (b::r)
 | _=>true
def checkI (l:List Int):Int:=if l.all inI=true then (if ascB l=true then 0 else 9) else 3
def firstW (n:Nat):List Nat:=(List.range n).foldl withW zW
theorem firstW_succ (n:Nat):firstW (n+1)=withW (firstW n) n:=by unfold firstW; rw [List.range_succ,List.foldl_append]; rfl
theorem firstW_ok:∀ n,OkW (firstW n)
 | 0=>zW_ok
 | n+1=>by rw [firstW_succ]; exact (firstW_ok n).with n
theorem has_first:∀ {n:Nat},n≤1024→∀ (j:Nat),has (firstW n) j=decide (j<n)
 | 0,_,j=>by show has zW j=_; rw [has_z]; simp
 | n+1,h,j=>by
  rw [firstW_succ,has_with (firstW_ok n) (by omega),has_first (by omega)]
  rw [Bool.eq_iff_iff]; simp; omega
def lowN (n:Int):Nat:=(min (max n 0) 1024).toNat
section
variable {G B:GS} {W:List Nat} {A:List Int} {v0:Value}
theorem first_lp (orc:FuncId→Bool) {sb rb n:Nat} (hn:n≤1024) (hsb:B.nx≤sb) (hrs:rb≠sb):∀ (k i:Nat) (τ:Env) (G:GS),i+k=n→τ 2=P0 rb→τ 3=P0 sb→τ 7= .int .i64 (n:Int)→τ 8= .int .i64 (i:Int)→Ext B G→sb<G.nx→rb<G.nx→G.obj sb=some ⟨setC (firstW i),1,false,1⟩→G.obj rb=some ⟨setC zW,1,false,1⟩ →
  Wp ((exL Q orc).lpx 176 0 τ G) fun q=>q.1= .exit 0∧Ext B q.2.2∧q.2.2.obj sb=some ⟨setC (firstW n),1,false,1⟩∧q.2.2.obj rb=some ⟨setC zW,1,false,1⟩∧q.2.1 2=P0 rb∧q.2.1 3=P0 sb:=by
 intro k
 induction k with
 | zero =>
  intro i τ G hi t2 t3 t7 t8 x hs hr os or
  have hi':i=n:=by omega
  subst hi'
  refine Wp.lp (l176_0 (exL_ok Q orc)) ?_
  simp [b176_0,clip_t,t2,t3,t7,t8]
  exact ⟨x,os,or⟩
 | succ k ih =>
  intro i τ G hi t2 t3 t7 t8 x hs hr os or
  have hlt:i<n:=by omega
  have hw:IntKind.wrap .i64 ((i:Int)+1)=((i+1:Nat):Int):=wrap64 (by omega) (by omega)
  have h1:(i:Int)<n:=by omega
  have hW:=firstW_ok i
  obtain ⟨G1,e1,x1⟩:=with_ok orc hW (by omega:i<1024) G
  rw [← firstW_succ] at e1
  have hW1:=firstW_ok (i+1)
  have os1:=(x1.obj sb hs).trans os
  have or1:=(x1.obj rb hr).trans or
  have n1:=x1.nx
  refine Wp.lp (l176_0 (exL_ok Q orc)) ?_
  simp [-Int.natCast_add,b176_0,clip_t,t2,t3,t7,t8,h1,hlt,os,setC_len hW,setC_take hW,e1,os1,setC_sto hW1 (setC_len hW),hw]
  refine ih (i+1) _ (G1.put sb ⟨setC (firstW (i+1)),1,false,1⟩) (by omega) ?_ ?_ ?_ ?_ ((x.trans x1).put hsb _) (by simp; omega) (by simp; omega) (by simp) (by simp [hrs,or1])<;>simp [clip_t,t2,t3]
theorem first_ok (orc:FuncId→Bool) (n:Int) (G:GS):∃ G',(E orc).cl 176 [.int .i64 n] G=some (setV (firstW (lowN n)),G')∧Ext G G':=by
 have w:Wp ((E orc).cl 176 [.int .i64 n] G) fun q=>q.1=setV (firstW (lowN n))∧Ext G q.2:=by
  refine Wp.ref (f176 (exL_ok Q orc) _ G) ?_
  have x0:Ext G ((G.push ⟨z276,1,false,1⟩).push ⟨z276,1,false,1⟩):=((Ext.refl G).push _).push _
  obtain ⟨m,hm⟩:∃ m,lowN n=m:=⟨_,rfl⟩
  have hm2:m≤1024:=by rw [← hm]; unfold lowN; omega
  have e1:(if (1024:Int)<(if 0>n then 0 else n) then (1024:Int) else (if 0>n then 0 else n))=(m:Int):=by
   rw [← hm]; unfold lowN; split<;>split at* <;>omega
  rw [hm]
  simp [s176]
  have e2:(if (1024:Int)<(if n<0 then 0 else n) then (1024:Int) else (if n<0 then 0 else n))=(m:Int):=e1
  rw [e2]
  refine Wp.bE ((first_lp orc (B:=G) (rb:=G.nx) (sb:=G.nx+1) hm2 (by omega) (by omega) m 0 _ _ (by omega) (by simp) (by simp) (by simp) (by simp) x0 (by simp) (by simp; omega) (by simp; rfl) (by simp; rfl)).mono ?_)
  rintro ⟨e,τ,G'⟩ ⟨rfl,x,o1,o2,t2,t3⟩
  simp only at x o1 o2 t2 t3
  have hW:=firstW_ok m
  simp [t2,t3,o1,o2,setC_len hW,setC_take hW,setC_sto hW (setC_len zW_ok)]
  exact x.put (Nat.le_refl _) _
 obtain ⟨⟨v,G'⟩,e,rfl,x⟩:=w
 exact ⟨G',e,x⟩
theorem inside_ok' (orc:FuncId→Bool) (i:Int) (G:GS):(E orc).cl 183 [.int .i64 i] G=some (.bool (inI i),G):=inside_ok orc i G
theorem rng_lp (orc:FuncId→Bool) (hA:SlR (rowsI .i64) G v0 A) (hlen:A.length<2 ^ 47):∀ (k i:Nat) (τ:Env),i+k=A.length→τ 0=v0→τ 6=v0→τ 7= .int .i64 A.length→τ 8= .int .i64 (i:Int) →
  Wp ((exL Q orc).lpx 181 0 τ G) fun q=>q.2.2=G∧((q.1= .exit 0∧(A.drop i).all inI=true∧q.2.1 0=v0)∨(q.1= .ret∧(A.drop i).all inI=false∧q.2.1 2= .int .i64 3)):=by
 intro k
 induction k with
 | zero =>
  intro i τ hi t0 t6 t7 t8
  have hi':i=A.length:=by omega
  refine Wp.lp (l181_0 (exL_ok Q orc)) ?_
  subst hi'
  simp [b181_0,clip_t,t0,t6,t7,t8]
 | succ k ih =>
  intro i τ hi t0 t6 t7 t8
  have hlt:i<A.length:=by omega
  have hw:IntKind.wrap .i64 ((i:Int)+1)=((i+1:Nat):Int):=wrap64 (by omega) (by omega)
  have h1:(i:Int)<A.length:=by omega
  have h2:(0:Int)≤i:=by omega
  obtain ⟨b,o,c,e0,_,q,_⟩:=hA.at hlt
  have q0:=q 0 (by decide)
  simp at q0
  rw [List.drop_eq_getElem_cons hlt]
  generalize A[i]=y at *
  refine Wp.lp (l181_0 (exL_ok Q orc)) ?_
  cases hy:inI y with
  | true =>
   simp [-Int.natCast_add,b181_0,clip_t,t0,t6,t7,t8,e0,h1,h2,hlt,q0,inside_ok',hy,hw]
   refine Wp.mono (ih (i+1) _ (by omega) ?_ ?_ ?_ ?_) fun q hq=>?_
   ·simp [clip_t,t0]
   ·simp [clip_t,e0]
   ·simp [clip_t]
   ·simp [clip_t]
   ·simpa [e0] using hq
  | false =>
   simp [-Int.natCast_add,b181_0,clip_t,t0,t6,t7,t8,e0,h1,h2,hlt,q0,inside_ok',hy,hw]
theorem asc_step {i:Nat} (h:i+1<A.length):ascB (A.drop i)=(decide (A[i]<A[i+1])&&ascB (A.drop (i+1))):=by
 rw [List.drop_eq_getElem_cons (by omega:i<A.length),List.drop_eq_getElem_cons h,ascB]
theorem asc_end {i:Nat} (h:A.length≤i+1):ascB (A.drop i)=true:=by
 have:(A.drop i).length≤1:=by rw [List.length_drop]; omega
 match hd:A.drop i,this with
 | [],_=>rfl
 | [_],_=>rfl
theorem asc_lp (orc:FuncId→Bool) (hA:SlR (rowsI .i64) B v0 A) (hlen:A.length<2 ^ 47):∀ (k i:Nat) (τ:Env) (G:GS),A.length≤i+1+k→τ 0=v0→τ 5= .int .i64 ((i+1:Nat):Int)→Ext B G →
  Wp ((exL Q orc).lpx 181 1 τ G) fun q=>Ext B q.2.2∧((q.1= .exit 2∧ascB (A.drop i)=true)∨(q.1= .ret∧ascB (A.drop i)=false∧q.2.1 2= .int .i64 9)):=by
 intro k
 induction k with
 | zero =>
  intro i τ G hi t0 t5 x
  have hn:¬ ((i+1:Nat):Int)<A.length:=by omega
  obtain ⟨a,c,e0⟩:=hA.len
  refine Wp.lp (l181_1 (exL_ok Q orc)) ?_
  simp [-Int.natCast_add,b181_1,clip_t,t0,t5,e0,hn,asc_end (show A.length≤i+1 by omega)]
  exact x
 | succ k ih =>
  intro i τ G hi t0 t5 x
  by_cases hlt:i+1<A.length
  ·have hw:IntKind.wrap .i64 (((i+1:Nat):Int)+1)=((i+1+1:Nat):Int):=by rw [show ((i+1:Nat):Int)+1=((i+1+1:Nat):Int) by omega]; exact wrap64 (by omega) (by omega)
   have hw3:IntKind.wrap .i64 (((i+1:Nat):Int) - 1)=(i:Int):=by rw [show ((i+1:Nat):Int) - 1=(i:Int) by omega]; exact wrap64 (by omega) (by omega)
   have h1:((i+1:Nat):Int)<A.length:=by omega
   have h2:(0:Int)≤((i+1:Nat):Int):=by omega
   have h3:(i:Int)<A.length:=by omega
   have h4:i<A.length:=by omega
   have x1:=x.room 10
   obtain ⟨b,o,c,e0,_,q,_⟩:=(hA.ext x).at hlt
   have q0:=q 0 (by decide)
   obtain ⟨b',o',c',e0',_,q',_⟩:=(hA.ext x).at h4
   have q0':=q' 0 (by decide)
   rw [e0] at e0'
   simp only [Value.slice.injEq,Option.some.injEq,Addr.mk.injEq,and_true,true_and] at e0'
   obtain ⟨⟨rfl,rfl⟩,rfl⟩:=e0'
   simp at q0 q0'
   rw [asc_step hlt]
   refine Wp.lp (l181_1 (exL_ok Q orc)) ?_
   by_cases hc:A[i]<A[i+1]
   ·have hc':¬ A[i+1]≤A[i]:=by omega
    simp [-Int.natCast_add,b181_1,clip_t,t0,t5,e0,h1,h2,h3,h4,hlt,q0,q0',hw,hw3,hc,hc']
    refine Wp.mono (ih (i+1) _ _ (by omega) ?_ ?_ x1) fun q hq=>?_
    ·simp [clip_t,e0]
    ·simp [clip_t]
    ·exact hq
   ·have hc':A[i+1]≤A[i]:=by omega
    simp [-Int.natCast_add,b181_1,clip_t,t0,t5,e0,h1,h2,h3,h4,hlt,q0,q0',hw,hw3,hc,hc']
    exact x1
  ·have hn:¬ ((i+1:Nat):Int)<A.length:=by omega
   obtain ⟨a,c,e0⟩:=hA.len
   refine Wp.lp (l181_1 (exL_ok Q orc)) ?_
   simp [-Int.natCast_add,b181_1,clip_t,t0,t5,e0,hn,asc_end (show A.length≤i+1 by omega)]
   exact x
theorem pcheck_ok (orc:FuncId→Bool) (hA:SlR (rowsI .i64) G v0 A) (hlen:A.length<2 ^ 47):∃ G',(E orc).cl 181 [v0] G=some (.int .i64 (checkI A),G')∧Ext G G':=by
 obtain ⟨a,c,e0⟩:=hA.len
 have l0:ln Q true 35 v0=some (.int .i64 A.length):=by rw [e0]; simp
 have w:Wp ((E orc).cl 181 [v0] G) fun q=>q.1= .int .i64 (checkI A)∧Ext G q.2:=by
  refine Wp.ref (f181 (exL_ok Q orc) _ G) ?_
  simp [s181,l0]
  refine Wp.bE ((rng_lp orc hA hlen A.length 0 _ (by omega) (by simp) (by simp) (by simp) (by simp)).mono ?_)
  rintro ⟨e,τ,G'⟩ ⟨h1,(⟨h2,h3,h4⟩ | ⟨h2,h3,h4⟩)⟩
  ·simp only [List.drop_zero] at h1 h2 h3 h4
   subst h1 h2
   simp
   refine Wp.bE ((asc_lp orc hA hlen A.length 0 _ _ (by omega) (by simp [h4]) (by simp) (Ext.refl _)).mono ?_)
   rintro ⟨e,τ',G'⟩ ⟨x,(⟨h5,h6⟩ | ⟨h5,h6,h7⟩)⟩
   ·simp only [List.drop_zero] at x h5 h6
    subst h5
    simp [checkI,h3,h6,x]
   ·simp only [List.drop_zero] at x h5 h6 h7
    subst h5
    simp [checkI,h3,h6,h7,x]
  ·simp only [List.drop_zero] at h1 h2 h3 h4
   subst h1 h2
   simp [checkI,h3,h4,Ext.refl]
 obtain ⟨⟨v,G'⟩,e,rfl,x⟩:=w
 exact ⟨G',e,x⟩
end
section
variable {G B:GS} {W:List Nat} {A:List Int} {v0:Value}
theorem setC_same (n:Nat) (W:List Nat):((setC W).all fun x=>sameD (n+1) x x)=true:=List.all_eq_true.2 fun x hx=>by
 obtain ⟨k,_,rfl⟩:=List.mem_map.1 hx
 simp
def freeI (W:List Nat) (x:Int):An×List Nat:=if inI x=true then (if has W x.toNat=true then ((8,0,0),W) else ((0,0,0),withW W x.toNat)) else ((3,0,0),W)
theorem freeI_ok {W:List Nat} (h:OkW W) (x:Int):OkW (freeI W x).2:=by
 unfold freeI
 split
 ·split
  ·exact h
  ·exact h.with _
 ·exact h
theorem pfree_ok (orc:FuncId→Bool) (hW:OkW W) (x:Int) (G:GS):∃ G',(E orc).cl 182 [setV W,.int .i64 x] G=some (.tuple #[anV (freeI W x).1,setV (freeI W x).2],G')∧Ext G G':=by
 have w:Wp ((E orc).cl 182 [setV W,.int .i64 x] G) fun q=>q.1= .tuple #[anV (freeI W x).1,setV (freeI W x).2]∧Ext G q.2:=by
  refine Wp.ref (f182 (exL_ok Q orc) _ _ G) ?_
  obtain ⟨G1,hG1⟩:∃ G1,G1=((G.push ⟨setC W,1,false,1⟩).push ⟨z27,1,false,1⟩).push ⟨z276,1,false,1⟩:=⟨_,rfl⟩
  have x1:Ext G G1:=by rw [hG1]; exact (((Ext.refl G).push _).push _).push _
  have n1:G1.nx=G.nx+3:=by rw [hG1]; rfl
  have d1:¬ G.nx=G.nx+1+1:=by omega
  have o0:G1.obj G.nx=some ⟨setC W,1,false,1⟩:=by rw [hG1]; simp [d1]
  have o1:G1.obj (G.nx+1)=some ⟨[.int .i64 0,.int .i64 0,.int .u64 0],1,false,1⟩:=by rw [hG1]; simp
  have o2:G1.obj (G.nx+1+1)=some ⟨setC zW,1,false,1⟩:=by rw [hG1]; simp; rfl
  unfold freeI
  cases hx:inI x with
  | false =>
   simp [s182,← hG1,inside_ok',hx,o0,o1,o2,d1,setC_same,setC_len hW,setC_take hW,setC_sto hW (setC_len zW_ok)]
   refine Ext.put (Ext.put (x1.room 4) ?_ _) ?_ _<;>omega
  | true =>
   obtain ⟨n,rfl⟩:∃ n:Nat,x=n:=⟨x.toNat,by simp [inI] at hx; omega⟩
   have hn:n<1024:=by simp [inI] at hx; omega
   obtain ⟨G2,e2,x2⟩:=has_ok orc hW hn G1
   have n2:=x2.nx
   have p0:=(x2.obj G.nx (by omega)).trans o0
   have p1:=(x2.obj (G.nx+1) (by omega)).trans o1
   have p2:=(x2.obj (G.nx+1+1) (by omega)).trans o2
   rw [Int.toNat_natCast]
   cases hh:has W n with
   | true =>
    rw [hh] at e2
    simp [s182,← hG1,inside_ok',hx,o0,e2,p0,p1,p2,d1,setC_same,setC_len hW,setC_take hW,setC_sto hW (setC_len zW_ok)]
    refine Ext.put (Ext.put ((x1.trans x2).room 4) ?_ _) ?_ _<;>omega
   | false =>
    rw [hh] at e2
    obtain ⟨G3,e3,x3⟩:=with_ok orc hW hn G2
    have n3:=x3.nx
    have q0:=(x3.obj G.nx (by omega)).trans p0
    have q1:=(x3.obj (G.nx+1) (by omega)).trans p1
    have q2:=(x3.obj (G.nx+1+1) (by omega)).trans p2
    have hw:=hW.with n
    simp [s182,← hG1,inside_ok',hx,o0,e2,p0,e3,q0,q1,q2,d1,setC_len hW,setC_take hW,setC_len hw,setC_take hw,setC_sto hw (setC_len zW_ok)]
    refine Ext.put (Ext.put (x1.trans (x2.trans x3)) ?_ _) ?_ _<;>omega
 obtain ⟨⟨v,G'⟩,e,rfl,x⟩:=w
 exact ⟨G',e,x⟩
end
structure VarI (B:GS) (ob l:Nat) (r:Lp) (G:GS) (cs:List Value):Prop where
 nx:B.nx≤G.nx
 obj:∀ g,g<B.nx→g≠ob→G.obj g=B.obj g
 nl:B.nl≤G.nl
 loop:∀ k,k<B.nl→k≠l→G.loop k=B.loop k
 obB:ob<B.nx
 lB:l<B.nl
 lp:G.loop l=some r
 var:G.obj ob=some ⟨cs,1,false,1⟩
section
variable {A B G G':GS} {ob l:Nat} {r:Lp} {cs ds:List Value}
theorem VarI.begin {G1:GS} (ho:G1.obj ob=some ⟨cs,1,false,1⟩) (hb:ob<G1.nx) (r:Lp):VarI (G1.pushLoop r) ob G1.nl r (G1.pushLoop r) cs :=
 ⟨Nat.le_refl _,fun _ _ _=>rfl,Nat.le_refl _,fun _ _ _=>rfl,hb,by simp,by simp,by simpa using ho⟩
theorem VarI.ext (h:VarI B ob l r G cs) (x:Ext G G'):VarI B ob l r G' cs :=
 ⟨Nat.le_trans h.nx x.nx,fun g hg hn=>(x.obj g (Nat.lt_of_lt_of_le hg h.nx)).trans (h.obj g hg hn),Nat.le_trans h.nl x.nl,fun k hk hn=>(x.loop k (Nat.lt_of_lt_of_le hk h.nl)).trans (h.loop k hk hn),h.obB,h.lB,
  (x.loop l (Nat.lt_of_lt_of_le h.lB h.nl)).trans h.lp,(x.obj ob (Nat.lt_of_lt_of_le h.obB h.nx)).trans h.var⟩
theorem VarI.lp' (h:VarI B ob l r G cs) (r':Lp):VarI B ob l r' (G.putLoop l r') cs :=
 ⟨h.nx,fun g hg hn=>by simpa using h.obj g hg hn,h.nl,fun k hk hn=>by rw [loop_putLoop,if_neg hn]; exact h.loop k hk hn,h.obB,h.lB,by simp,by simpa using h.var⟩
theorem VarI.put (h:VarI B ob l r G cs) (ds:List Value):VarI B ob l r (G.put ob ⟨ds,1,false,1⟩) ds :=
 ⟨h.nx,fun g hg hn=>by rw [obj_put,if_neg hn]; exact h.obj g hg hn,h.nl,fun k hk hn=>h.loop k hk hn,h.obB,h.lB,h.lp,by simp⟩
theorem VarI.from (h:VarI B ob l r G cs) (x:Ext A B) (ho:A.nx≤ob) (hl:A.nl≤l):Ext A G :=
 ⟨Nat.le_trans x.nx h.nx,fun g hg=>(h.obj g (Nat.lt_of_lt_of_le hg x.nx) (by omega)).trans (x.obj g hg),Nat.le_trans x.nl h.nl,fun k hk=>(h.loop k (Nat.lt_of_lt_of_le hk x.nl) (by omega)).trans (x.loop k hk)⟩
theorem VarI.tab (h:VarI B ob l r G cs) (hB:Tab B) (hn:2≤ob):Tab G :=
 hB.of (h.obj 0 (by have:=hB.nx; omega) (by omega)) (h.obj 1 (by have:=hB.nx; omega) (by omega)) h.nx
end
noncomputable abbrev lpR (T:List Value):Lp:=⟨.ready,none,T,[12],(subAt [1,1,0,1,0,0] (bodyOf Tryz.f112)),(subAt [1,1,0,1,0,1] (bodyOf Tryz.f112))⟩
section
variable {B G:GS} {ob l nb:Nat} {T:List Value} {A:List Int} {W:List Nat} {v0:Value}
theorem rrd_ok (orc:FuncId→Bool) {i:Nat} (hi:i<1024) (hW:OkW W) (hT:T.length=18) (t5:nth undef T 5=P0 ob)
  (hc:VarI B ob l (lpR T) G (setC W)) :
  Wp ((E orc).rd l [.int .i64 (i:Int)] G) fun q=>q.1= .bool true∧VarI B ob l (lpR T) q.2 (setC (woW W i)):=by
 refine Wp.ref (d112_0 (exL_ok Q orc) l T _ G hc.lp hT) ?_
 have c0:=hc.lp' (Lp.setSt (lpR T) .busy)
 have v1:=c0.var
 simp only [obj_putLoop] at v1
 obtain ⟨G1,e1,x1⟩:=wo_ok orc hW hi (G.putLoop l (Lp.setSt (lpR T) .busy))
 have c1:=c0.ext x1
 have hw:=hW.wo i
 have c2:=c1.put (setC (woW W i))
 have hrd:(roundEnd l .normal (G1.put ob ⟨setC (woW W i),1,false,1⟩))=some (.bool true,(G1.put ob ⟨setC (woW W i),1,false,1⟩).putLoop l (lpR T)):=by
  rw [roundEnd_some l .normal _ (j:=none) rfl (r:=Lp.setSt (lpR T) .busy) c2.lp]
  rfl
 simp [r112_0,t5,hc.lp,v1,setC_len hW,setC_take hW,e1,c1.var,setC_sto hw (setC_len hW),hrd]
 exact c2.lp' (lpR T)
theorem foldwo_ok:∀ (L:List Nat) {W:List Nat},OkW W→OkW (L.foldl woW W)
 | [],_,h=>h
 | x::L,_,h=>foldwo_ok L (h.wo x)
theorem has_foldwo:∀ (L:List Nat) {W:List Nat},OkW W→(∀ x∈L,x<1024)→∀ (j:Nat),has (L.foldl woW W) j=(has W j&&decide (j∉L))
 | [],W,h,_,j=>by simp
 | x::L,W,h,hL,j=>by
  rw [List.foldl_cons,has_foldwo L (h.wo x) (fun y hy=>hL y (by simp [hy])),has_wo h (hL x (by simp)),Bool.and_assoc]
  congr 1
  rw [Bool.eq_iff_iff]; simp
def restN (l:List Int) (n:Int):List Nat:=(List.range (lowN n)).filter fun j:Nat=>decide ((j:Int)∉l)
theorem lowN_le (n:Int):lowN n≤1024:=by unfold lowN; omega
theorem rest_els (l:List Int) (n:Int):els ((els (ofW l)).foldl woW (firstW (lowN n)))=restN l n:=by
 refine asc_ext (els_asc _) (asc_range _ _) fun j=>?_
 have hL:∀ x∈els (ofW l),x<1024:=fun x hx=>(mem_els.1 hx).1
 rw [mem_els,has_foldwo _ (firstW_ok _) hL,has_first (lowN_le n)]
 unfold restN
 have:=lowN_le n
 simp only [List.mem_filter,List.mem_range,Bool.and_eq_true,decide_eq_true_eq]
 constructor
 ·rintro ⟨h1,h2,h3⟩
  refine ⟨h2,fun h4=>h3 (mem_els.2 ⟨h1,?_⟩)⟩
  rw [has_of l h1]; simpa using h4
 ·rintro ⟨h1,h2⟩
  refine ⟨by omega,h1,fun h3=>h2 ?_⟩
  have:=(mem_els.1 h3).2
  rw [has_of l (by omega)] at this
  simpa using this
theorem rest_ok (orc:FuncId→Bool) (hA:SlR (rowsI .i64) G v0 A) (hlen:A.length<2 ^ 47) (n:Int) (hG:Tab G):∃ v G',(E orc).cl 112 [v0,.int .i64 n] G=some (v,G')∧Ext G G' ∧OwR (rowsI .i64) G.nx G' v ((restN A n).map fun n:Nat=>(n:Int)):=by
 have w:Wp ((E orc).cl 112 [v0,.int .i64 n] G) fun q=>Ext G q.2∧OwR (rowsI .i64) G.nx q.2 q.1 ((restN A n).map fun n:Nat=>(n:Int)):=by
  refine Wp.ref (f112 (exL_ok Q orc) _ _ G) ?_
  obtain ⟨G1,e1,x1⟩:=first_ok orc n G
  have hF:=firstW_ok (lowN n)
  obtain ⟨G2,hG2⟩:∃ G2,G2=(G1.push ⟨z276,1,false,1⟩).put G1.nx ⟨setC (firstW (lowN n)),1,false,1⟩:=⟨_,rfl⟩
  have x2:Ext G1 G2:=by rw [hG2]; exact ((Ext.refl G1).push _).put (Nat.le_refl _) _
  have o2:G2.obj G1.nx=some ⟨setC (firstW (lowN n)),1,false,1⟩:=by rw [hG2]; simp
  have n2:G2.nx=G1.nx+1:=by rw [hG2]; rfl
  have y2:=x1.trans x2
  obtain ⟨G3,e3,x3⟩:=of_ok orc (hA.ext y2) hlen
  have hO:=ofW_ok A
  have o3:=(x3.obj _ (by omega)).trans o2
  have n3:=x3.nx
  simp [s112,e1,setC_sto hF (cs:=z276) rfl,← hG2,e3,setAll_ok]
  generalize hTT:lst 18 (tu (nth undef _) _)=T
  have hT:T.length=18:=by rw [← hTT]; exact length_lst 18 _
  have t5:nth undef T 5=P0 G1.nx:=by rw [← hTT,nth_lst]; simp [clip_t]
  clear hTT
  have q3:(G3.push ⟨setC (ofW A),1,false,1⟩).obj G1.nx=some ⟨setC (firstW (lowN n)),1,false,1⟩:=by
   have:¬ G1.nx=G3.nx:=by omega
   simp [this,o3]
  have y3:=y2.trans (x3.trans ((Ext.refl G3).push ⟨setC (ofW A),1,false,1⟩))
  have n4:=x1.nx
  obtain ⟨G4,hG4⟩:∃ G4,G4=G3.push ⟨setC (ofW A),1,false,1⟩:=⟨_,rfl⟩
  have q4:G4.obj G3.nx=some ⟨setC (ofW A),1,false,1⟩:=by rw [hG4]; simp
  have n5:G4.nx=G3.nx+1:=by rw [hG4]; rfl
  rw [← hG4] at q3 y3
  rw [show G3.nl=G4.nl by rw [hG4]; rfl,← hG4]
  have c0:=VarI.begin q3 (by omega) (lpR T)
  have xB:Ext G4 (G4.pushLoop (lpR T)):=(Ext.refl G4).pushLoop _
  have hTb:Tab (G4.pushLoop (lpR T)):=hG.ext (y3.trans xB)
  have h0:G1.nx≠0:=by have:=hG.nx; omega
  have hrd:RdOk orc (ofW A) G4.nl (fun L G'=>VarI (G4.pushLoop (lpR T)) G1.nx G4.nl (lpR T) G' (setC (L.foldl woW (firstW (lowN n))))) (fun _=>False):=by
   intro L i R G' hE hc
   have hi:i<1024:=(mem_els.1 (show i∈els (ofW A) by rw [← hE]; simp)).1
   refine (rrd_ok orc hi (foldwo_ok L hF) hT t5 hc).mono ?_
   rintro q ⟨h1,h2⟩
   exact .inl ⟨h1,by simpa using h2⟩
  obtain ⟨⟨q,G5⟩,e5,rfl,c5⟩:=all1_ok orc hO hrd (fun L G' hc=>hc.tab hTb (by have:=hG.nx; have:=x1.nx; omega)) (sb:=G3.nx) (G:=G4.pushLoop (lpR T)) (by simpa using q4) (by simpa using c0)
  simp only [or_false] at c5
  simp only [E] at e5
  have hX:=foldwo_ok (els (ofW A)) hF
  have y5:=(c5.from (y3.trans xB) n4 (by have:=y3.nl; omega)).putLoop (by have:=y3.nl; omega) (Lp.setSt (lpR T) .exhausted) (l:=G4.nl)
  obtain ⟨v,G6,e6,x6,w6⟩:=list_ok orc hX (hG.ext y5)
  rw [rest_els] at w6
  simp [e5]
  rw [xRangeEnd_some (r:=lpR T) _ _ _ _ c5.lp (by simp) (e:=.normal) rfl]
  simp [t5,c5.var,setC_len hX,setC_take hX,e6]
  exact ⟨y5.trans x6,w6.mono y5.nx⟩
 obtain ⟨⟨v,G'⟩,e,e1,e2⟩:=w
 exact ⟨v,G',e,e1,e2⟩
end
section
variable {B G:GS} {A:List Int} {v0:Value}
end
def allA (l:List Int) (op:Opn):List An :=
 if checkI l=0 then (if op.1=7 then l.map (fun x=>(0,x,0))++[(7,0,0),(12,0,0)] else if op.1=8 then [if inI op.2.1=true then (if op.2.1∈l then (8,0,0) else (0,0,0)) else (3,0,0)] else []) else []
theorem checkI_zero {l:List Int}:checkI l=0↔l.all inI=true∧ascB l=true:=by
 unfold checkI
 split
 ·rename_i h1
  split
  ·rename_i h2; simp [h1,h2]
  ·rename_i h2; simp [h1,h2]
 ·rename_i h1; simp [h1]
theorem asc_pair:∀ {l:List Int},ascB l=true→l.Pairwise (·<·)
 | [],_=>List.Pairwise.nil
 | [a],_=>List.pairwise_singleton _ _
 | a::b::r,h=>by
  simp only [ascB,Bool.and_eq_true,decide_eq_true_eq] at h
  have ih:=asc_pair h.2
  refine List.pairwise_cons.2 ⟨fun x hx=>?_,ih⟩
  rcases List.mem_cons.1 hx with rfl | hx
  ·exact h.1
  ·have:=(List.pairwise_cons.1 ih).1 x hx; omega
theorem asc_extI {A B:List Int} (hA:A.Pairwise (·<·)) (hB:B.Pairwise (·<·)) (h:∀ x,x∈A↔x∈B):A=B:=by
 induction A generalizing B with
 | nil =>
  cases B with
  | nil=>rfl
  | cons b B=>exact absurd ((h b).2 (by simp)) (by simp)
 | cons a A ih =>
  cases B with
  | nil=>exact absurd ((h a).1 (by simp)) (by simp)
  | cons b B =>
   obtain ⟨ha,hA'⟩:=List.pairwise_cons.1 hA
   obtain ⟨hb,hB'⟩:=List.pairwise_cons.1 hB
   have hab:a=b:=by
    rcases List.mem_cons.1 ((h a).1 (by simp)) with h1 | h1
    ·exact h1
    ·rcases List.mem_cons.1 ((h b).2 (by simp)) with h2 | h2
     ·exact h2.symm
     ·have:=ha b h2; have:=hb a h1; omega
   subst hab
   rw [ih hA' hB' fun x=>?_]
   constructor
   ·intro hx
    rcases List.mem_cons.1 ((h x).1 (by simp [hx])) with h1 | h1
    ·have:=ha x hx; omega
    ·exact h1
   ·intro hx
    rcases List.mem_cons.1 ((h x).2 (by simp [hx])) with h1 | h1
    ·have:=hb x hx; omega
    ·exact h1
def elsI (W:List Nat):List Int:=(els W).map fun n:Nat=>(n:Int)
theorem elsI_asc (W:List Nat):(elsI W).Pairwise (·<·):=by
 unfold elsI
 rw [List.pairwise_map]
 exact (els_asc W).imp fun h=>by omega
theorem mem_elsI {W:List Nat} {x:Int}:x∈elsI W↔inI x=true∧has W x.toNat=true:=by
 unfold elsI
 simp only [List.mem_map,mem_els,inI,decide_eq_true_eq]
 constructor
 ·rintro ⟨n,⟨h1,h2⟩,rfl⟩
  exact ⟨by omega,by simpa using h2⟩
 ·rintro ⟨h1,h2⟩
  exact ⟨x.toNat,⟨by omega,h2⟩,by omega⟩
theorem mem_of (l:List Int) {x:Int}:x∈elsI (ofW l)↔inI x=true∧x∈l:=by
 rw [mem_elsI]
 constructor
 ·rintro ⟨h1,h2⟩
  have h3:x.toNat<1024∧((x.toNat:Nat):Int)=x:=by simp [inI] at h1; omega
  rw [has_of l h3.1,h3.2] at h2
  exact ⟨h1,by simpa using h2⟩
 ·rintro ⟨h1,h2⟩
  have h3:x.toNat<1024∧((x.toNat:Nat):Int)=x:=by simp [inI] at h1; omega
  rw [has_of l h3.1,h3.2]
  exact ⟨h1,by simpa using h2⟩
theorem elsI_of {l:List Int} (h:checkI l=0):elsI (ofW l)=l:=by
 obtain ⟨h1,h2⟩:=checkI_zero.1 h
 refine asc_extI (elsI_asc _) (asc_pair h2) fun x=>?_
 rw [mem_of]
 exact ⟨fun h=>h.2,fun hx=>⟨List.all_eq_true.1 h1 x hx,hx⟩⟩
section
variable {B G:GS} {ob l nb:Nat} {T:List Value} {L:List An} {W:List Nat} {A:List Int} {v0:Value}
end
section
variable {B G:GS} {A:List Int} {v0:Value}
def behP (l:List Int) (op:Opn) (an:An) (j:Nat):Bool:=if op.1=8∧(j:Int)=op.2.1 then true else if op.1=7∧(j:Int)=an.2.1 then false else decide ((j:Int)∈l)
def behN (l:List Int) (op:Opn) (an:An) (n:Nat):List Int:=((List.range n).filter (behP l op an)).map fun n:Nat=>(n:Int)
def behA (l:List Int) (op:Opn) (an:An):List Int:=if an.1=0 then behN l op an 1024 else l
theorem behN_len (l:List Int) (op:Opn) (an:An) (i:Nat):(behN l op an i).length≤i:=by
 unfold behN
 have:=List.length_filter_le (behP l op an) (List.range i)
 simpa using this
end
def nextA (l:List Int) (op:Opn) (an:An):List Int×Bool:=if an∈allA l op then (behA l op an,true) else ([],false)
section
variable {B G:GS} {A:List Int} {v0 v1:Value} {L:List An}
end
theorem inI_nat {x:Int} (h:inI x=true):x.toNat<1024∧((x.toNat:Nat):Int)=x:=by simp [inI] at h; omega
theorem mem_behN {l:List Int} {op:Opn} {an:An} {x:Int}:x∈behN l op an 1024↔inI x=true∧behP l op an x.toNat=true:=by
 unfold behN
 simp only [List.mem_map,List.mem_filter,List.mem_range]
 constructor
 ·rintro ⟨n,⟨h1,h2⟩,rfl⟩
  exact ⟨by simp [inI]; omega,by simpa using h2⟩
 ·rintro ⟨h1,h2⟩
  obtain ⟨h3,h4⟩:=inI_nat h1
  exact ⟨x.toNat,⟨h3,h2⟩,h4⟩
theorem behN_asc (l:List Int) (op:Opn) (an:An):(behN l op an 1024).Pairwise (·<·):=by
 unfold behN
 rw [List.pairwise_map]
 exact (asc_range _ _).imp fun h=>by omega
theorem els_free {l:List Int} {op:Opn} {an:An} (h8:op.1=8) (hi:inI op.2.1=true) (h0:op.2.1∉l):elsI (withW (ofW l) op.2.1.toNat)=behN l op an 1024:=by
 refine asc_extI (elsI_asc _) (behN_asc _ _ _) fun x=>?_
 rw [mem_elsI,mem_behN]
 obtain ⟨h3,h4⟩:=inI_nat hi
 refine and_congr_right fun hx=>?_
 obtain ⟨h5,h6⟩:=inI_nat hx
 rw [has_with (ofW_ok l) h3,has_of l h5]
 unfold behP
 rw [h6]
 by_cases hj:x=op.2.1
 ·rw [if_pos ⟨h8,hj⟩,hj]; simp
 ·rw [if_neg (fun h=>hj h.2),if_neg (fun h=>by omega)]
  have:¬ x.toNat=op.2.1.toNat:=by omega
  simp [this]
theorem els_alloc {l:List Int} {op:Opn} {an:An} (h7:op.1=7) (hi:inI an.2.1=true):elsI (woW (ofW l) an.2.1.toNat)=behN l op an 1024:=by
 refine asc_extI (elsI_asc _) (behN_asc _ _ _) fun x=>?_
 rw [mem_elsI,mem_behN]
 obtain ⟨h3,h4⟩:=inI_nat hi
 refine and_congr_right fun hx=>?_
 obtain ⟨h5,h6⟩:=inI_nat hx
 rw [has_wo (ofW_ok l) h3,has_of l h5]
 unfold behP
 rw [h6,if_neg (fun h=>by omega)]
 by_cases hj:x=an.2.1
 ·rw [if_pos ⟨h7,hj⟩,hj]; simp
 ·rw [if_neg (fun h=>hj h.2)]
  have:¬ x.toNat=an.2.1.toNat:=by omega
  simp [this]
theorem next_free {l:List Int} {op:Opn} {an:An} (hc:checkI l=0) (h8:op.1=8):nextA l op an=if (freeI (ofW l) op.2.1).1=an then (elsI (freeI (ofW l) op.2.1).2,true) else ([],false):=by
 have h7:¬ op.1=7:=by omega
 unfold nextA allA behA
 rw [if_pos hc,if_neg h7,if_pos h8]
 simp only [List.mem_singleton]
 unfold freeI
 by_cases hi:inI op.2.1=true
 ·obtain ⟨h3,h4⟩:=inI_nat hi
  rw [if_pos hi,if_pos hi,has_of l h3,h4]
  by_cases hm:op.2.1∈l
  ·simp only [hm,decide_true,if_true]
   by_cases ha:an=(8,0,0)
   ·subst ha; simp [elsI_of hc]
   ·rw [if_neg ha,if_neg (fun h=>ha h.symm)]
  ·simp only [hm,decide_false,if_false,Bool.false_eq_true]
   by_cases ha:an=(0,0,0)
   ·subst ha; simp [els_free (an:=(0,0,0)) h8 hi hm]
   ·rw [if_neg ha,if_neg (fun h=>ha h.symm)]
 ·rw [if_neg hi,if_neg hi]
  by_cases ha:an=(3,0,0)
  ·subst ha; simp [elsI_of hc]
  ·rw [if_neg ha,if_neg (fun h=>ha h.symm)]
theorem next_alloc {l:List Int} {op:Opn} {an:An} (hc:checkI l=0) (h7:op.1=7):nextA l op an=if an=(7,0,0)∨an=(12,0,0) then (elsI (ofW l),true) else if inI an.2.1=true∧an=(0,an.2.1,0)∧has (ofW l) an.2.1.toNat=true then (elsI (woW (ofW l) an.2.1.toNat),true) else ([],false):=by
 have hrng:=(checkI_zero.1 hc).1
 unfold nextA allA behA
 rw [if_pos hc,if_pos h7]
 by_cases hr:an=(7,0,0)∨an=(12,0,0)
 ·rw [if_pos hr,if_pos (by simp only [List.mem_append,List.mem_cons,List.not_mem_nil,or_false]; exact .inr hr),elsI_of hc]
  rcases hr with rfl | rfl<;>simp
 ·rw [if_neg hr]
  by_cases hg:inI an.2.1=true∧an=(0,an.2.1,0)∧has (ofW l) an.2.1.toNat=true
  ·rw [if_pos hg]
   obtain ⟨h1,h2,h3⟩:=hg
   obtain ⟨h4,h5⟩:=inI_nat h1
   rw [has_of l h4,h5] at h3
   have h0:an.1=0:=by rw [h2]
   rw [if_pos,if_pos h0,els_alloc h7 h1]
   simp only [List.mem_append,List.mem_map]
   exact .inl ⟨an.2.1,by simpa using h3,h2.symm⟩
  ·rw [if_neg hg,if_neg]
   simp only [List.mem_append,List.mem_map,List.mem_cons,List.not_mem_nil,or_false]
   rintro (⟨x,hx,rfl⟩ | h)
   ·refine hg ⟨List.all_eq_true.1 hrng x hx,rfl,?_⟩
    obtain ⟨h4,h5⟩:=inI_nat (List.all_eq_true.1 hrng x hx)
    show has (ofW l) x.toNat=true
    rw [has_of l h4,h5]; simpa using hx
   ·exact hr h
theorem next_none {l:List Int} {op:Opn} {an:An} (h:checkI l≠0∨(op.1≠7∧op.1≠8)):nextA l op an=([],false):=by
 unfold nextA allA
 rcases h with h | ⟨h1,h2⟩
 ·rw [if_neg h]; simp
 ·rw [if_neg h1,if_neg h2]
  split<;>simp
section
variable {B G:GS} {A:List Int} {v0:Value}
theorem next_ok (orc:FuncId→Bool) (hA:SlR (rowsI .i64) G v0 A) (hlen:A.length<2 ^ 36) (op:Opn) (an:An) (hG:Tab G):∃ v G',(E orc).cl 113 [v0,opV op,anV an] G=some (.tuple #[v,.bool (nextA A op an).2],G')∧Ext G G' ∧OwR (rowsI .i64) G.nx G' v (nextA A op an).1:=by
 have w:Wp ((E orc).cl 113 [v0,opV op,anV an] G) fun q=>∃ v,q.1= .tuple #[v,.bool (nextA A op an).2]∧Ext G q.2∧OwR (rowsI .i64) G.nx q.2 v (nextA A op an).1:=by
  refine Wp.ref (f113 (exL_ok Q orc) _ _ _ G) ?_
  obtain ⟨G1,hG1⟩:∃ G1,G1=(G.push ⟨[.int .i64 op.1,.int .i64 op.2.1,.int .i64 op.2.2.1,.int .u64 op.2.2.2],1,false,1⟩).push ⟨[.int .i64 an.1,.int .i64 an.2.1,.int .u64 an.2.2],1,false,1⟩:=⟨_,rfl⟩
  have x1:Ext G G1:=by rw [hG1]; exact ((Ext.refl G).push _).push _
  have n1:G1.nx=G.nx+2:=by rw [hG1]; rfl
  have oo:G1.obj G.nx=some ⟨[.int .i64 op.1,.int .i64 op.2.1,.int .i64 op.2.2.1,.int .u64 op.2.2.2],1,false,1⟩:=by rw [hG1]; simp
  have oa:G1.obj (G.nx+1)=some ⟨[.int .i64 an.1,.int .i64 an.2.1,.int .u64 an.2.2],1,false,1⟩:=by rw [hG1]; simp
  obtain ⟨G2,e2,x2⟩:=pcheck_ok orc (hA.ext x1) (by omega)
  have n2:=x2.nx
  by_cases hk:checkI A=0
  ·rw [hk] at e2
   obtain ⟨G3,e3,x3⟩:=of_ok orc (hA.ext (x1.trans x2)) (by omega)
   have n3:=x3.nx
   have hO:=ofW_ok A
   obtain ⟨G4,hG4⟩:∃ G4,G4=(G3.push ⟨z276,1,false,1⟩).put G3.nx ⟨setC (ofW A),1,false,1⟩:=⟨_,rfl⟩
   have x4:Ext G3 G4:=by rw [hG4]; exact ((Ext.refl G3).push _).put (Nat.le_refl _) _
   have n4:G4.nx=G3.nx+1:=by rw [hG4]; rfl
   have y4:=(x2.trans x3).trans x4
   have oo4:=(y4.obj G.nx (by omega)).trans oo
   have oa4:=(y4.obj (G.nx+1) (by omega)).trans oa
   have os4:G4.obj G3.nx=some ⟨setC (ofW A),1,false,1⟩:=by rw [hG4]; simp
   have z4:=x1.trans y4
   simp [s113,sb113,← hG1,e2,e3,setC_sto hO (cs:=z276) rfl,← hG4]
   clear hG1 hG4
   have fin:∀ (G':GS) (τ:Env) (W:List Nat),OkW W→Ext G G' →τ 8=P0 G3.nx→G'.obj G3.nx=some ⟨setC W,1,false,1⟩→Wp (j113_0 true (exL Q orc) τ G') fun q=>∃ v,q.1= .tuple #[v,.bool true]∧Ext G q.2∧OwR (rowsI .i64) G.nx q.2 v (elsI W):=by
    intro G' τ W hW x t8 o
    obtain ⟨v,G7,e7,x7,w7⟩:=list_ok orc hW (hG.ext x)
    simp [j113_0,jb113_0,t8,o,setC_len hW,setC_take hW,e7]
    exact ⟨x.trans x7,w7.mono x.nx⟩
   by_cases h8:op.1=8
   ·rw [next_free hk h8]
    obtain ⟨G5,e5,x5⟩:=pfree_ok orc hO op.2.1 G4
    have n5:=x5.nx
    have hF:=freeI_ok hO op.2.1
    generalize hfr:freeI (ofW A) op.2.1=fr at *
    have oa5:=(x5.obj (G.nx+1) (by omega)).trans oa4
    have os5:=(x5.obj G3.nx (by omega)).trans os4
    have hne:=ne_an (.tmp 29) (.tmp 30) fr.1 an
    have d1:¬ G.nx+1=G5.nx:=by omega
    have d2:¬ G.nx+1=G5.nx+1:=by omega
    have d3:¬ G3.nx=G5.nx:=by omega
    have d4:¬ G3.nx=G5.nx+1:=by omega
    have d5:¬ G.nx=G5.nx:=by omega
    have y5:Ext G (((((G5.push ⟨z27,1,false,1⟩).push ⟨z276,1,false,1⟩).put G5.nx ⟨[.int .i64 fr.1.1,.int .i64 fr.1.2.1,.int .u64 fr.1.2.2],1,false,1⟩).put (G5.nx+1) ⟨setC fr.2,1,false,1⟩)) :=
     Ext.put (Ext.put ((((z4.trans x5).push _).push _)) (by omega) _) (by omega) _
    by_cases hc:fr.1=an
    ·simp only [hc,decide_true,Bool.not_true] at hne
     rw [if_pos hc]
     simp only [hc] at y5
     simp [oo4,h8,os4,setC_len hO,setC_take hO,e5,hc,setC_len hF,setC_take hF,setC_allT,d1,d2,d3,d4,d5,oa5,os5,hne]
     refine fin _ _ fr.2 hF ?_ ?_ ?_
     ·exact Ext.put y5 (by omega) _
     ·simp [clip_t]
     ·simp [setC_len hO]
    ·have hc':decide (fr.1=an)=false:=by simpa using hc
     rw [hc'] at hne
     rw [if_neg hc]
     simp [oo4,h8,os4,setC_len hO,setC_take hO,e5,setC_len hF,setC_take hF,setC_allT,d1,d2,d3,d4,d5,oa5,os5,hne]
     exact ⟨y5,OwR.nil _ _⟩
   by_cases h7:op.1=7
   ·rw [next_alloc hk h7]
    have q1:=eq_an (.tmp 35) (.tmp 36) an (7,0,0)
    have q2:=eq_an (.tmp 39) (.tmp 40) an (12,0,0)
    have q3:=eq_an (.tmp 47) (.tmp 50) an (0,an.2.1,0)
    cases hi:inI an.2.1 with
    | false =>
     by_cases a1:an=(7,0,0)
     ·rw [show decide (an=(7,0,0))=true by simpa using a1] at q1
      rw [if_pos (.inl a1)]
      simp [oo4,h7,h8,oa4,os4,setC_len hO,setC_take hO,q1,q2,q3,inside_ok',hi]
      exact fin _ _ _ hO z4 (by simp [clip_t]) os4
     by_cases a2:an=(12,0,0)
     ·rw [show decide (an=(7,0,0))=false by simpa using a1] at q1
      rw [show decide (an=(12,0,0))=true by simpa using a2] at q2
      rw [if_pos (.inr a2)]
      simp [oo4,h7,h8,oa4,os4,setC_len hO,setC_take hO,q1,q2,q3,inside_ok',hi]
      exact fin _ _ _ hO z4 (by simp [clip_t]) os4
     rw [show decide (an=(7,0,0))=false by simpa using a1] at q1
     rw [show decide (an=(12,0,0))=false by simpa using a2] at q2
     rw [if_neg (by rintro (h | h); exact a1 h; exact a2 h),if_neg (fun h=>by cases h.1)]
     simp [oo4,h7,h8,oa4,os4,setC_len hO,setC_take hO,q1,q2,q3,inside_ok',hi]
     exact ⟨z4,OwR.nil _ _⟩
    | true =>
     by_cases hq:an=(0,an.2.1,0)
     ·have a1:¬ an=(7,0,0):=fun h=>by rw [h] at hq; simp at hq
      have a2:¬ an=(12,0,0):=fun h=>by rw [h] at hq; simp at hq
      rw [show decide (an=(7,0,0))=false by simpa using a1] at q1
      rw [show decide (an=(12,0,0))=false by simpa using a2] at q2
      rw [show decide (an=(0,an.2.1,0))=true by simpa using hq] at q3
      obtain ⟨n3',n4'⟩:=inI_nat hi
      obtain ⟨G5,e5,x5⟩:=has_ok orc hO n3' G4
      rw [n4'] at e5
      have n5:=x5.nx
      have oa5:=(x5.obj (G.nx+1) (by omega)).trans oa4
      have os5:=(x5.obj G3.nx (by omega)).trans os4
      rw [if_neg (by rintro (h | h); exact a1 h; exact a2 h)]
      cases hh:has (ofW A) an.2.1.toNat with
      | false =>
       rw [hh] at e5
       rw [if_neg (fun h=>by have:=h.2.2; cases this)]
       simp [oo4,h7,h8,oa4,os4,setC_len hO,setC_take hO,q1,q2,q3,inside_ok',hi,e5]
       exact ⟨z4.trans x5,OwR.nil _ _⟩
      | true =>
       rw [hh] at e5
       rw [if_pos ⟨rfl,hq,rfl⟩]
       obtain ⟨G6,e6,x6⟩:=wo_ok orc hO n3' G5
       rw [n4'] at e6
       have n6:=x6.nx
       have hw:=hO.wo an.2.1.toNat
       have os6:=(x6.obj G3.nx (by omega)).trans os5
       simp [oo4,h7,h8,oa4,os4,setC_len hO,setC_take hO,q1,q2,q3,inside_ok',hi,e5,oa5,os5,e6,os6,setC_len hw,setC_take hw,setC_allT]
       refine fin _ _ _ hw ?_ ?_ ?_
       ·exact ((z4.trans x5).trans x6).put (by omega) _
       ·simp [clip_t]
       ·simp [setC_len hO]
     ·rw [show decide (an=(0,an.2.1,0))=false by simpa using hq] at q3
      by_cases a1:an=(7,0,0)
      ·rw [show decide (an=(7,0,0))=true by simpa using a1] at q1
       rw [if_pos (.inl a1)]
       simp [oo4,h7,h8,oa4,os4,setC_len hO,setC_take hO,q1,q2,q3,inside_ok',hi]
       exact fin _ _ _ hO z4 (by simp [clip_t]) os4
      by_cases a2:an=(12,0,0)
      ·rw [show decide (an=(7,0,0))=false by simpa using a1] at q1
       rw [show decide (an=(12,0,0))=true by simpa using a2] at q2
       rw [if_pos (.inr a2)]
       simp [oo4,h7,h8,oa4,os4,setC_len hO,setC_take hO,q1,q2,q3,inside_ok',hi]
       exact fin _ _ _ hO z4 (by simp [clip_t]) os4
      rw [show decide (an=(7,0,0))=false by simpa using a1] at q1
      rw [show decide (an=(12,0,0))=false by simpa using a2] at q2
      rw [if_neg (by rintro (h | h); exact a1 h; exact a2 h),if_neg (fun h=>hq h.2.1)]
      simp [oo4,h7,h8,oa4,os4,setC_len hO,setC_take hO,q1,q2,q3,inside_ok',hi]
      exact ⟨z4,OwR.nil _ _⟩
   ·rw [next_none (.inr ⟨h7,h8⟩)]
    simp [oo4,h7,h8]
    exact ⟨z4,OwR.nil _ _⟩
  ·rw [next_none (.inl hk)]
   simp [s113,sb113,← hG1,e2,hk]
   exact ⟨x1.trans x2,OwR.nil _ _⟩
 obtain ⟨⟨v,G'⟩,e,v',rfl,e1,e2⟩:=w
 exact ⟨v',G',e,e1,e2⟩
end
end Go.Proofs.YtlaojmcekeohnaaGreatDoor.Lift
